/- What the proof needs, gathered by wip/gen/shake.py. -/
import Derived.Calls
import Derived.Deep.Quiet
import Derived.Below
import Derived.Laws.AppendOwn
import Derived.WalkKit
import Derived.Laws.OwnMore
import Derived.Deep.Slices
import Derived.ChangeOld
import Derived.ArgAppend
import Derived.RangeFuncIn
import Derived.RangeFuncRecord
import Derived.RangeFuncLeaves
import Derived.Laws.MakeOwn
import Derived.IntWalk
import Derived.Laws.IdiomStrings
import Derived.Laws.Cover3
import Derived.Laws.CopyOwn
import Derived.MapKept
import Derived.RangeFuncNested
import Derived.Test.YtmfppphlhgneeaaRows
import Derived.ProofKit
import Derived.OpenShut
import Derived.ShutString
import Derived.Test.YtmfppphlhgneeaaLookupEvenQ4

section
namespace Go.Proofs.Ytmfppphlhgneeaa
open Go.RowKit
set_option linter.unusedSimpArgs false
set_option linter.unusedVariables false
set_option synthInstance.maxSize 2000
set_option synthInstance.maxHeartbeats 400000
set_option maxHeartbeats 4000000 in
set_option maxRecDepth 100000 in
theorem ref20_Build_c {Fs : List Hp} {G : Hp} {x0_0 : Int} {a0_1 : Option Addr} {k0_1 : Nat} {x0_1 : List (Int × Int)} {x1 : Int} {a2 : Option Addr} {k2 : Nat} {x2 : List (ByteArray × Int)} {r : (((Int × (List (Int × Int))) × Int × (List (List (ByteArray × Int)))) × Int)} (hG : G ∈ Fs) (s0_1 : SlR (Rep.pair (Rep.int .i64) (Rep.int .i64)) G a0_1 k0_1 x0_1) (s2 : SlR (Rep.pair Rep.str (Rep.int .i64)) G a2 k2 x2) (h : ref20_Build (x0_0, x0_1) x1 x2 = some r) : RetW Try.prog 19 #[.agg #[.int .i64 x0_0, .slice a0_1 x0_1.length k0_1], .int .i64 x1, .slice a2 x2.length k2] Fs [] [] (fun v bo so G => ∃ a0 : Option Addr, ∃ k0 : Nat, ∃ a1 : Option Addr, ∃ k1 : Nat, v = .tuple #[.agg #[.int .i64 r.1.1.1, .slice a0 r.1.1.2.length k0, .int .i64 r.1.2.1, .slice a1 r.1.2.2.length k1], .int .i64 r.2] ∧ bo = [] ∧ so = [] ∧ SlR (Rep.pair (Rep.int .i64) (Rep.int .i64)) G a0 k0 r.1.1.2 ∧ SlR (Rep.sl (Rep.pair Rep.str (Rep.int .i64))) G a1 k1 r.1.2.2) := by
 unfold ref20_Build at h
 try dsimp only at h
 refine RetW.of (vs := [_, _, _]) Try.func19 rfl Try.ntmps19 [(0, _), (1, _), (2, _)] ⟨rfl, rfl, rfl, trivial⟩ rfl hG fun w0 S0 hS0 B0 => ?_
 refine Cov.seq ?_;refine Cov.region rfl ?_
 refine Cov.box [_, _] .ro rfl rfl rfl (fun b1 hb1 => ?_)
 refine Cov.alloc .ro ty31 rfl (fun b2 hb2 => ?_)
 refine Cov.q .ro (.assign rfl) rfl ?_;refine Cov.region_end ?_;refine Cov.seq ?_;refine Cov.seq ?_;refine Cov.region rfl ?_;refine Cov.q .ro (.load_own_a 1 [_, _] rfl rfl ty28 rfl) rfl ?_
 obtain ⟨u3, hu3, r4⟩ := bind_some h; clear h
 refine Cov.callS (b1 := []) (b2 := [_, _]) (s1 := []) [_] [] .ro rfl rfl Try.call37 rfl rfl (ref19_Check_c (G := G) List.mem_cons_self s0_1 hu3) rfl (fun v6 bo so h5 => ?_)
 obtain ⟨rfl, rfl, rfl⟩ := h5
 refine Cov.same (bl' := [_, _]) (sl' := []) rfl rfl rfl ?_;refine Cov.q .ro (.neq rfl rfl) rfl ?_;refine Cov.region_end ?_
 refine Cov.cond_dec rfl (fun c7 => ?_) (fun c7 => ?_)
 ·have r8 := ifT r4 c7; clear r4
  refine Cov.seq ?_;refine Cov.region rfl ?_;refine Cov.q .ro (.build [_, _, _, _] [] ty31 pl31 rfl rfl) rfl ?_;refine Cov.store 0 [_, _, _, _] [_, _] .ro rfl rfl rfl ty31 rfl rfl rfl rfl ?_;refine Cov.q .ro (.assign rfl) rfl ?_;refine Cov.region_end ?_
  cases r8
  refine Cov.retWD 2 (c := ⟨19, none⟩) (.inr ⟨_, rfl⟩) [.cell 6 31, .tmp 7] [_, _] rfl Try.func19 Try.results19 ⟨RV.cell_a 0 [_, _, _, _] rfl rfl ty31 rfl, RV.tmp rfl, trivial⟩ (fun _ h => List.mem_cons_of_mem _ h) List.mem_cons_self B0 (by subst hS0; simp [blks]) (fun G' hg => ⟨none, 0, none, 0, rfl, rfl, rfl, (SlR.mono hg (SlR.nil (Rp' := (Rep.pair (Rep.int .i64) (Rep.int .i64))))), (SlR.mono hg (SlR.nil (Rp' := (Rep.sl (Rep.pair Rep.str (Rep.int .i64))))))⟩)
 ·have r9 := ifF r4 c7; clear r4
  refine Cov.skip ?_;refine Cov.seq ?_;refine Cov.seq ?_;refine Cov.region rfl ?_;refine Cov.q .ro (.move rfl) rfl ?_;refine Cov.q .ro (.lss rfl rfl) rfl ?_;refine Cov.q .ro (.move rfl) rfl ?_;refine Cov.cutR 3 (β := Unit) (fun y => [(33, .bool (decide ((x1 < 1) ∨ (8 < x1))))]) [(1, _), (2, _), (3, _), (6, _)] (fun y => G :: Fs) (fun y => []) [_, _] (fun y => []) [] (fun y => True) ⟨rfl, rfl, rfl, rfl, trivial⟩ [0, 1] rfl [] rfl ?_ ?_
  ·rintro _ _
   refine Cov.prune [(33, .bool (decide ((x1 < 1) ∨ (8 < x1)))), (1, _), (2, _), (3, _), (6, _)] ⟨rfl, rfl, rfl, rfl, rfl, trivial⟩ ?_;refine Cov.same (bl' := [_, _]) (sl' := []) (Fs' := G :: Fs) rfl rfl rfl ?_;refine Cov.region_end ?_
   refine Cov.cond_dec rfl (fun c14 => ?_) (fun c14 => ?_)
   ·have r15 := ifT r9 c14; clear r9
    refine Cov.seq ?_;refine Cov.region rfl ?_;refine Cov.q .ro (.build [_, _, _, _] [] ty31 pl31 rfl rfl) rfl ?_;refine Cov.store 0 [_, _, _, _] [_, _] .ro rfl rfl rfl ty31 rfl rfl rfl rfl ?_;refine Cov.q .ro (.assign rfl) rfl ?_;refine Cov.region_end ?_
    cases r15
    refine Cov.retWD 2 (c := ⟨19, none⟩) (.inr ⟨_, rfl⟩) [.cell 6 31, .tmp 7] [_, _] rfl Try.func19 Try.results19 ⟨RV.cell_a 0 [_, _, _, _] rfl rfl ty31 rfl, RV.tmp rfl, trivial⟩ (fun _ h => List.mem_cons_of_mem _ h) List.mem_cons_self B0 (by subst hS0; simp [blks]) (fun G' hg => ⟨none, 0, none, 0, rfl, rfl, rfl, (SlR.mono hg (SlR.nil (Rp' := (Rep.pair (Rep.int .i64) (Rep.int .i64))))), (SlR.mono hg (SlR.nil (Rp' := (Rep.sl (Rep.pair Rep.str (Rep.int .i64))))))⟩)
   ·have r16 := ifF r9 c14; clear r9
    refine Cov.skip ?_;refine Cov.seq ?_;refine Cov.seq ?_;refine Cov.region rfl ?_;refine Cov.q .ro (.move rfl) rfl ?_;refine Cov.q .ro (.len_sl rfl rfl sl32) rfl ?_;refine Cov.q .ro (.gtr rfl rfl) rfl ?_;refine Cov.region_end ?_
    refine Cov.cond_dec rfl (fun c17 => ?_) (fun c17 => ?_)
    ·have r18 := ifT r16 c17; clear r16
     refine Cov.seq ?_;refine Cov.region rfl ?_;refine Cov.q .ro (.build [_, _, _, _] [] ty31 pl31 rfl rfl) rfl ?_;refine Cov.store 0 [_, _, _, _] [_, _] .ro rfl rfl rfl ty31 rfl rfl rfl rfl ?_;refine Cov.q .ro (.assign rfl) rfl ?_;refine Cov.region_end ?_
     cases r18
     refine Cov.retWD 2 (c := ⟨19, none⟩) (.inr ⟨_, rfl⟩) [.cell 6 31, .tmp 7] [_, _] rfl Try.func19 Try.results19 ⟨RV.cell_a 0 [_, _, _, _] rfl rfl ty31 rfl, RV.tmp rfl, trivial⟩ (fun _ h => List.mem_cons_of_mem _ h) List.mem_cons_self B0 (by subst hS0; simp [blks]) (fun G' hg => ⟨none, 0, none, 0, rfl, rfl, rfl, (SlR.mono hg (SlR.nil (Rp' := (Rep.pair (Rep.int .i64) (Rep.int .i64))))), (SlR.mono hg (SlR.nil (Rp' := (Rep.sl (Rep.pair Rep.str (Rep.int .i64))))))⟩)
    ·have r19 := ifF r16 c17; clear r16
     refine Cov.skip ?_;refine Cov.seq ?_;refine Cov.region rfl ?_;refine Cov.q .ro (.assign rfl) rfl ?_;refine Cov.region_end ?_;refine Cov.seq ?_;refine Cov.seq ?_;refine Cov.region rfl ?_;refine Cov.q .ro (.move rfl) rfl ?_
     refine Cov.q .ro (.len_sl rfl rfl sl32) rfl ?_;refine Cov.q .ro (.move rfl) rfl ?_;refine Cov.region_end ?_;refine Cov.cutB (β := (List (ByteArray × Int)) × Option Addr × Nat × List Value × Int × Int × Int) (fun y => [(8, .slice y.2.1 y.1.length y.2.2.1)]) [(1, _), (3, _), (6, _)] (fun y => G :: Fs) (fun y => [(b2, .cells #[.int .i64 y.2.2.2.2.1, .slice none 0 0, .int .i64 y.2.2.2.2.2.1, .slice none 0 0] 31 (0, 0)), (b1, .cells #[.int .i64 y.2.2.2.2.2.2, .slice a0_1 x0_1.length k0_1] 28 (0, 0))]) [] (fun y => [.s (.slice y.2.1 y.1.length y.2.2.1) 63 2 y.1.length y.2.2.2.1]) [] (fun y => OL (Rep.pair Rep.str (Rep.int .i64)) G y.2.2.2.1 y.1 ∧ (ref20_Build_J6 x1 x0_1) y.1 y.2.2.2.2.1 y.2.2.2.2.2.1 y.2.2.2.2.2.2 = some r) ⟨rfl, rfl, rfl, trivial⟩ [] rfl [] rfl ?_ ?_
     ·intro y hI
      obtain ⟨v987, a988, k989, cs990, v993, v994, v995⟩ := y
      obtain ⟨o991, r997⟩ := hI
      try dsimp only at o991 r997
      refine Cov.prune [(8, .slice a988 v987.length k989), (1, _), (3, _), (6, _)] ⟨rfl, rfl, rfl, rfl, trivial⟩ ?_;refine Cov.same (bl' := [(b2, .cells #[.int .i64 v993, .slice none 0 0, .int .i64 v994, .slice none 0 0] 31 (0, 0)), (b1, .cells #[.int .i64 v995, .slice a0_1 x0_1.length k0_1] 28 (0, 0))]) (sl' := [.s (.slice a988 v987.length k989) 63 2 v987.length cs990]) (Fs' := G :: Fs) rfl rfl rfl ?_
      unfold ref20_Build_J6 at r997
      try dsimp only at r997
      refine Cov.seq ?_;refine Cov.region rfl ?_;refine Cov.q .ro (.assign rfl) rfl ?_;refine Cov.region_end ?_;refine Cov.seq ?_;refine Cov.seq ?_;refine Cov.region rfl ?_;refine Cov.q .ro (.move rfl) rfl ?_;refine Cov.q .ro (.len_sl rfl rfl sl32) rfl ?_
      refine Cov.q .ro (.move rfl) rfl ?_;refine Cov.region_end ?_;refine Cov.cutB (β := Hp × List (List Int) × Option Addr × Nat × List Value × Int × Int × Int) (fun y => [(14, .slice y.2.2.1 y.2.1.length y.2.2.2.1)]) [(8, _), (1, _), (3, _), (6, _)] (fun y => y.1 :: Fs) (fun y => [(b2, .cells #[.int .i64 y.2.2.2.2.2.1, .slice none 0 0, .int .i64 y.2.2.2.2.2.2.1, .slice none 0 0] 31 (0, 0)), (b1, .cells #[.int .i64 y.2.2.2.2.2.2.2, .slice a0_1 x0_1.length k0_1] 28 (0, 0))]) [] (fun y => [.s (.slice y.2.2.1 y.2.1.length y.2.2.2.1) 39 1 y.2.1.length y.2.2.2.2.1]) [_] (fun y => HpLe G y.1 ∧ Bd w0 S0 Fs y.1 ∧ OL (Rep.sl (Rep.int .i64)) y.1 y.2.2.2.2.1 y.2.1 ∧ (ref20_Build_J4 x1 x0_1 v987) y.2.1 y.2.2.2.2.2.1 y.2.2.2.2.2.2.1 y.2.2.2.2.2.2.2 = some r) ⟨rfl, rfl, rfl, rfl, trivial⟩ [] rfl [0] rfl ?_ ?_
      ·intro y hI
       obtain ⟨G1134, v1138, a1139, k1140, cs1141, v1144, v1145, v1146⟩ := y
       obtain ⟨e1135, B1136, o1142, r1148⟩ := hI
       try dsimp only at e1135 B1136 o1142 r1148
       refine Cov.prune [(14, .slice a1139 v1138.length k1140), (8, _), (1, _), (3, _), (6, _)] ⟨rfl, rfl, rfl, rfl, rfl, trivial⟩ ?_;refine Cov.same (bl' := [(b2, .cells #[.int .i64 v1144, .slice none 0 0, .int .i64 v1145, .slice none 0 0] 31 (0, 0)), (b1, .cells #[.int .i64 v1146, .slice a0_1 x0_1.length k0_1] 28 (0, 0))]) (sl' := [.s (.slice a1139 v1138.length k1140) 39 1 v1138.length cs1141, _]) (Fs' := G1134 :: Fs) rfl rfl rfl ?_
       unfold ref20_Build_J4 at r1148
       try dsimp only at r1148
       refine Cov.seq ?_;refine Cov.region rfl ?_;refine Cov.q .ro (.move rfl) rfl ?_;refine Cov.q .ro (.fieldAddr 0 rfl fl28_0 ty3.sz rfl) rfl ?_;refine Cov.q .ro (.load_own 1 rfl rfl ty3 rfl) rfl ?_;refine Cov.q .ro (.move rfl) rfl ?_
       refine Cov.freezeR 0 rfl rfl o1142 [_] rfl B1136 (fun G1152 e1153 B1154 s1155 => ?_)
       obtain ⟨u1157, hu1157, r1158⟩ := bind_some r1148; clear r1148
       refine Cov.callS (b1 := []) (b2 := [_, _]) (s1 := []) [_, _, _] [] .ro rfl rfl Try.call40 rfl rfl (ref19_First_c (G := G1152) List.mem_cons_self s1155 hu1157) rfl (fun v1160 bo so h1159 => ?_)
       obtain ⟨a1162, k1163, cs1164, rfl, rfl, rfl, o1165⟩ := h1159
       refine Cov.same (bl' := [_, _]) (sl' := [_, _]) rfl rfl rfl ?_;refine Cov.q .ro (.move rfl) rfl ?_;refine Cov.q .ro (.extract rfl rfl) rfl ?_;refine Cov.q .ro (.extract rfl rfl) rfl ?_;refine Cov.q .ro (.assign rfl) rfl ?_;refine Cov.q .ro (.assign rfl) rfl ?_;refine Cov.region_end ?_;refine Cov.seq ?_;refine Cov.seq ?_
       refine Cov.region rfl ?_;refine Cov.q .ro (.move rfl) rfl ?_;refine Cov.q .ro (.not rfl) rfl ?_;refine Cov.region_end ?_
       refine Cov.cond rfl (fun c1166 => ?_) (fun c1166 => ?_)
       ·have r1167 := ifT r1158 c1166; clear r1158
        refine Cov.seq ?_;refine Cov.region rfl ?_;refine Cov.q .ro (.build [_, _, _, _] [] ty31 pl31 rfl rfl) rfl ?_;refine Cov.store 0 [_, _, _, _] [_, _] .ro rfl rfl rfl ty31 rfl rfl rfl rfl ?_;refine Cov.q .ro (.assign rfl) rfl ?_;refine Cov.region_end ?_;refine Cov.prune [(6, _), (7, _)] ⟨rfl, rfl, trivial⟩ ?_
        cases r1167
        refine Cov.drop 0 2 _ [] rfl rfl ?_
        refine Cov.retWD 2 (c := ⟨19, none⟩) (.inr ⟨_, rfl⟩) [.cell 6 31, .tmp 7] [_, _] rfl Try.func19 Try.results19 ⟨RV.cell_a 0 [_, _, _, _] rfl rfl ty31 rfl, RV.tmp rfl, trivial⟩ (fun _ h => List.mem_cons_of_mem _ h) List.mem_cons_self B1154 (by subst hS0; simp [blks]) (fun G' hg => ⟨none, 0, none, 0, rfl, rfl, rfl, (SlR.mono hg (SlR.nil (Rp' := (Rep.pair (Rep.int .i64) (Rep.int .i64))))), (SlR.mono hg (SlR.nil (Rp' := (Rep.sl (Rep.pair Rep.str (Rep.int .i64))))))⟩)
       ·have r1168 := ifBF r1158 c1166; clear r1158
        refine Cov.skip ?_;refine Cov.seq ?_;refine Cov.cutG (β := Nat × Int × (List (Int × Int)) × Option Addr × Nat × List Value × Int × (List (List (ByteArray × Int))) × Option Addr × Nat × List NE × List Value) (fun y => [(21, .pointer (some ⟨y.1, 0, none⟩))]) [(8, _), (6, _), (19, _)] (fun y => G1152 :: Fs) (fun y => [(y.1, .cells #[.int .i64 y.2.1, .slice y.2.2.2.1 y.2.2.1.length y.2.2.2.2.1, .int .i64 y.2.2.2.2.2.2.1, .slice y.2.2.2.2.2.2.2.2.1 y.2.2.2.2.2.2.2.1.length y.2.2.2.2.2.2.2.2.2.1] 31 (0, 0))]) [_, _] (fun y => [.s (.slice y.2.2.2.1 y.2.2.1.length y.2.2.2.2.1) 70 2 y.2.2.1.length y.2.2.2.2.2.1, .s (.slice y.2.2.2.2.2.2.2.2.1 y.2.2.2.2.2.2.2.1.length y.2.2.2.2.2.2.2.2.2.1) 32 1 y.2.2.2.2.2.2.2.1.length y.2.2.2.2.2.2.2.2.2.2.2, .g (packG 63 2 y.2.2.2.2.2.2.2.2.2.2.1)]) [_, _] (fun y => OL (Rep.pair (Rep.int .i64) (Rep.int .i64)) G1152 y.2.2.2.2.2.1 y.2.2.1 ∧ NL (Rep.pair Rep.str (Rep.int .i64)) G1152 y.2.2.2.2.2.2.2.2.2.2.1 y.2.2.2.2.2.2.2.2.2.2.2 y.2.2.2.2.2.2.2.1 ∧ (ref20_Build_J3 v1144 v1145 v1146 u1157.1 v987) y.2.1 y.2.2.1 y.2.2.2.2.2.2.1 y.2.2.2.2.2.2.2.1 = some r) ⟨rfl, rfl, rfl, trivial⟩ [0, 1] rfl [0, 1] rfl ?_ ?_
        ·intro y hI
         obtain ⟨b5197, v5198, v5199, a5200, k5201, cs5202, v5205, v5206, a5207, k5208, es5209, cs5210⟩ := y
         obtain ⟨o5203, o5211, r5215⟩ := hI
         try dsimp only at o5203 o5211 r5215
         refine Cov.prune [(21, .pointer (some ⟨b5197, 0, none⟩)), (8, _), (6, _), (19, _)] ⟨rfl, rfl, rfl, rfl, trivial⟩ ?_;refine Cov.same (bl' := [(b5197, .cells #[.int .i64 v5198, .slice a5200 v5199.length k5201, .int .i64 v5205, .slice a5207 v5206.length k5208] 31 (0, 0)), _, _]) (sl' := [.s (.slice a5200 v5199.length k5201) 70 2 v5199.length cs5202, .s (.slice a5207 v5206.length k5208) 32 1 v5206.length cs5210, .g (packG 63 2 es5209), _, _]) (Fs' := G1152 :: Fs) rfl rfl rfl ?_
         unfold ref20_Build_J3 at r5215
         try dsimp only at r5215
         refine Cov.seq ?_;refine Cov.seq ?_;refine Cov.region rfl ?_;refine Cov.q .ro (.move rfl) rfl ?_;refine Cov.q .ro (.len_sl rfl rfl sl39) rfl ?_;refine Cov.q .ro (.move rfl) rfl ?_;refine Cov.region_end ?_;refine Cov.cutB (β := Hp × Int × Int × (List (List (ByteArray × Int))) × List NE × List Value × Int × Int × Int) (fun y => []) [(21, _), (6, _)] (fun y => y.1 :: Fs) (fun y => [(b5197, .cells #[.int .i64 y.2.1, .slice a5200 v5199.length k5201, .int .i64 y.2.2.1, .slice a5207 y.2.2.2.1.length k5208] 31 (0, 0)), (b2, .cells #[.int .i64 y.2.2.2.2.2.2.1, .slice none 0 0, .int .i64 y.2.2.2.2.2.2.2.1, .slice none 0 0] 31 (0, 0)), (b1, .cells #[.int .i64 y.2.2.2.2.2.2.2.2, .slice a0_1 x0_1.length k0_1] 28 (0, 0))]) [] (fun y => [.s (.slice a5207 y.2.2.2.1.length k5208) 32 1 y.2.2.2.1.length y.2.2.2.2.2.1, .g (packG 63 2 y.2.2.2.2.1)]) [_, _] (fun y => HpLe G1152 y.1 ∧ Bd w0 S0 Fs y.1 ∧ NL (Rep.pair Rep.str (Rep.int .i64)) y.1 y.2.2.2.2.1 y.2.2.2.2.2.1 y.2.2.2.1 ∧ y.2.2.2.1.length = v5206.length ∧ (ref20_Build_J1 v5199) y.2.1 y.2.2.1 y.2.2.2.1 y.2.2.2.2.2.2.1 y.2.2.2.2.2.2.2.1 y.2.2.2.2.2.2.2.2 = some r) ⟨rfl, rfl, trivial⟩ [] rfl [0, 3] rfl ?_ ?_
         ·intro y hI
          obtain ⟨G17446, v17450, v17451, v17452, es17453, cs17454, v17459, v17460, v17461⟩ := y
          obtain ⟨e17447, B17448, o17455, hl17456, r17463⟩ := hI
          try dsimp only at e17447 B17448 o17455 hl17456 r17463
          refine Cov.prune [(21, _), (6, _)] ⟨rfl, rfl, trivial⟩ ?_;refine Cov.same (bl' := [(b5197, .cells #[.int .i64 v17450, .slice a5200 v5199.length k5201, .int .i64 v17451, .slice a5207 v17452.length k5208] 31 (0, 0)), (b2, .cells #[.int .i64 v17459, .slice none 0 0, .int .i64 v17460, .slice none 0 0] 31 (0, 0)), (b1, .cells #[.int .i64 v17461, .slice a0_1 x0_1.length k0_1] 28 (0, 0))]) (sl' := [.s (.slice a5207 v17452.length k5208) 32 1 v17452.length cs17454, .g (packG 63 2 es17453), _, _]) (Fs' := G17446 :: Fs) rfl rfl rfl ?_
          unfold ref20_Build_J1 at r17463
          try dsimp only at r17463
          refine Cov.seq ?_;refine Cov.region rfl ?_;refine Cov.q .ro (.load_own_a 0 [_, _, _, _] rfl rfl ty31 rfl) rfl ?_;refine Cov.store 1 [_, _, _, _] [_, _, _] .ro rfl rfl rfl ty31 rfl rfl rfl rfl ?_;refine Cov.q .ro (.assign rfl) rfl ?_;refine Cov.region_end ?_
          refine Cov.freezeR 2 rfl rfl (OL.mono e17447 o5203) [_, _, _] rfl B17448 (fun G17467 e17468 B17469 s17470 => ?_)
          refine Cov.pullS 1 rfl [_, _, _] rfl ?_;refine Cov.pullS 1 rfl [_, _, _] rfl ?_
          refine Cov.freezeN (Q := (Rep.pair Rep.str (Rep.int .i64))) rfl (NL.mono e17468 o17455) rfl B17469 (fun G17472 e17473 B17474 s17475 => ?_)
          cases r17463
          refine Cov.drop 0 1 _ [] rfl rfl ?_
          refine Cov.retWD 3 (c := ⟨19, none⟩) (.inr ⟨_, rfl⟩) [.cell 6 31, .tmp 7] [_, _] rfl Try.func19 Try.results19 ⟨RV.cell_a 1 [_, _, _, _] rfl rfl ty31 rfl, RV.tmp rfl, trivial⟩ (fun _ h => List.mem_cons_of_mem _ h) List.mem_cons_self B17474 (by subst hS0; simp [blks]) (fun G' hg => ⟨a5200, k5201, a5207, k5208, rfl, rfl, rfl, (SlR.mono hg (SlR.mono e17473 s17470)), (SlR.mono hg s17475)⟩)
         ·intro hb17477
          refine Cov.block ?_
          refine Cov.freezeR 4 rfl rfl (OL.mono (HpLe.trans e1135 e1153) o991) [_, _, _, _] rfl B1154 (fun G21548 e21549 B21550 s21551 => ?_)
          refine Cov.pullS 2 rfl [_, _, _, _] rfl ?_;refine Cov.pullS 2 rfl [_, _, _, _] rfl ?_
          refine Cov.loop2 (α := Nat × List Int × Hp × (List (List (ByteArray × Int))) × List NE × List Value) (fun y => [(141, .int .i64 (y.1 : Int))]) [(21, _), (8, _), (6, _), (139, _), (140, _)] (fun y => [y.2.2.1]) (fun y => [(b5197, .cells #[.int .i64 v5198, .slice a5200 v5199.length k5201, .int .i64 v5205, .slice a5207 y.2.2.2.1.length k5208] 31 (0, 0))]) [_, _] (fun y => [.s (.slice a5207 y.2.2.2.1.length k5208) 32 1 y.2.2.2.1.length y.2.2.2.2.2, .g (packG 63 2 y.2.2.2.2.1)]) [_, _] (fun y => HpLe G21548 y.2.2.1 ∧ Bd w0 S0 Fs y.2.2.1 ∧ NL (Rep.pair Rep.str (Rep.int .i64)) y.2.2.1 y.2.2.2.2.1 y.2.2.2.2.2 y.2.2.2.1 ∧ y.2.2.2.1.length = v5206.length ∧ List.drop y.1 u1157.1 = y.2.1 ∧ ref20_Build_L2 (ref20_Build_J1 v5199) v987 v5198 v5205 v1144 v1145 v1146 y.2.1 y.1 y.2.2.2.1 = some r) (fun y => y.2.1.length) (0, u1157.1, G21548, v5206, es5209, cs5210) ⟨(HpLe.refl _), B21550, (NL.mono e21549 o5211), rfl, rfl, r5215⟩ ⟨rfl, rfl, rfl, rfl, rfl, rfl, trivial⟩ rfl rfl rfl (fun y hI hb25634 => ?_)
          obtain ⟨i25619, w25620, G25622, v25626, es25627, cs25628⟩ := y
          obtain ⟨e25623, B25624, o25629, hl25630, g25621, r25633⟩ := hI
          try dsimp only at e25623 B25624 o25629 hl25630 g25621 r25633
          refine Cov.prune [(141, .int .i64 (i25619 : Int)), (21, _), (8, _), (6, _), (139, _), (140, _)] ⟨rfl, rfl, rfl, rfl, rfl, rfl, trivial⟩ ?_;refine Cov.same (bl' := [(b5197, .cells #[.int .i64 v5198, .slice a5200 v5199.length k5201, .int .i64 v5205, .slice a5207 v25626.length k5208] 31 (0, 0)), _, _]) (sl' := [.s (.slice a5207 v25626.length k5208) 32 1 v25626.length cs25628, .g (packG 63 2 es25627), _, _]) (Fs' := G25622 :: Fs) rfl rfl rfl ?_
          cases w25620 with
          | nil =>
           rw [ref20_Build_L2] at r25633; try dsimp only at r25633
           refine Cov.seq ?_;refine Cov.region rfl ?_;refine Cov.q .ro (.lss rfl rfl) rfl ?_;refine Cov.region_end ?_;refine Cov.seq ?_
           refine Cov.cond_dec rfl (fun c => absurd c (drop_nil g25621)) (fun _ => ?_)
           refine Cov.exit rfl ?_
           refine Cov.prune _ ?_ (Cov.same rfl rfl rfl (hb17477 (G25622, v5198, v5205, v25626, es25627, cs25628, v1144, v1145, v1146) ⟨(HpLe.trans e21549 e25623), B25624, o25629, hl25630, r25633⟩))
           exact ⟨rfl, rfl, trivial⟩
          | cons x25646 xs25647 =>
           have r25645 : ref20_Build_B2 (ref20_Build_J1 v5199) v987 v5198 v5205 v1144 v1145 v1146 (ref20_Build_L2 (ref20_Build_J1 v5199) v987 v5198 v5205 v1144 v1145 v1146 xs25647 (i25619 + 1)) x25646 i25619 v25626 = some r := r25633; clear r25633; unfold ref20_Build_B2 at r25645; try dsimp only at r25645
           refine Cov.seq ?_;refine Cov.region rfl ?_;refine Cov.q .ro (.lss rfl rfl) rfl ?_;refine Cov.region_end ?_;refine Cov.seq ?_
           refine Cov.cond_dec rfl (fun _ => ?_) (fun c => absurd (drop_lt g25621) c)
           refine Cov.skip ?_;refine Cov.seq ?_;refine Cov.block ?_;refine Cov.seq ?_;refine Cov.region rfl ?_;refine Cov.q .ro (.move rfl) rfl ?_
           obtain ⟨c25648, p25649, h25650⟩ := OL.get (OL.mono (HpLe.trans e21549 e25623) o1165) (drop_idx g25621)
           obtain rfl := h25650
           refine Cov.q .ro (.idxO 3 rfl rfl rfl (drop_idx g25621) sl39 ty3.sz) rfl ?_;refine Cov.q .ro (.loadO 3 0 rfl (drop_idx g25621) p25649 rfl (.inl ⟨rfl, rfl⟩) ty3 rfl) rfl ?_;refine Cov.q .ro (.assign rfl) rfl ?_;refine Cov.q .ro (.assign rfl) rfl ?_;refine Cov.region_end ?_;refine Cov.drawL (.q 0 (.q 1 (.q 2 (.q 3 (.q 4 (.q 5 (.q 8 (.q 9 (.q 10 (.q 11 (.alt (.e 6 1 (.alt (.e 7 1 (.e 12 1 (.e 13 1 (.e 14 2 (.e 15 2 .nil))))) (.e 12 1 (.e 7 1 (.e 13 1 (.e 14 2 (.e 15 2 .nil))))))) (.e 12 1 (.e 6 1 (.e 7 1 (.e 13 1 (.e 14 2 (.e 15 2 .nil))))))))))))))))) [_, _, _] (by kernel_rfl) (by kernel_rfl) (pick_mem [0, 1, 2] rfl) ?_
           obtain ⟨u25651, hu25651, r25687⟩ := bind_some r25645; clear r25645
           obtain ⟨u25655, hu25655, r25688⟩ := bind_some r25687; clear r25687
           obtain ⟨u25674, hu25674, r25689⟩ := bind_some r25688; clear r25688
           obtain ⟨u25676, hu25676, r25690⟩ := bind_some r25689; clear r25689
           obtain ⟨u25682, hu25682, r25691⟩ := bind_some r25690; clear r25690
           refine Cov.dq (.fieldAddr 3 rfl fl31_2 ty29.sz rfl) rfl ?_;refine Cov.dq (.load_own 0 rfl rfl ty29 rfl) rfl ?_;refine Cov.dq (.move rfl) rfl ?_;refine Cov.dq (.fieldAddr 3 rfl fl31_2 ty29.sz rfl) rfl ?_;refine Cov.dq (.load_own 0 rfl rfl ty29 rfl) rfl ?_;refine Cov.dq (.move rfl) rfl ?_;refine Cov.dq (.move rfl) rfl ?_;refine Cov.dq (.move rfl) rfl ?_
           obtain ⟨c25692, p25693, h25694⟩ := SlR.get (SlR.mono e25623 s21551) hu25651
           obtain ⟨_, _, rfl, rfl, rfl⟩ := h25694
           refine Cov.dq (.idxR (SlR.mono e25623 s21551) rfl rfl hu25651 sl32 ty63.sz) rfl ?_;refine Cov.dq (.load_rp_a [_, _] p25693 List.mem_cons_self rfl ty63 rfl) rfl ?_;refine Cov.alt ?_ ?_
           ·obtain ⟨e25695, he25696, hn25697, ho25698, p25699⟩ := NL.get o25629 hu25655
            refine Cov.q .d1 (.idxO 0 rfl rfl rfl hu25655 sl29 ty32.sz) rfl ?_;refine Cov.clsL (HpLe.refl _) (pick_mem [0, 1, 2] rfl) ?_;refine Cov.alt ?_ ?_
            ·refine Cov.q .d1 (.loadO 0 0 rfl hu25655 p25699 rfl (.inl ⟨rfl, rfl⟩) ty32 rfl) rfl ?_
             refine Cov.clsL (HpLe.refl _) (pick_mem [0, 1, 2] rfl) ?_
             refine Cov.lit [_, _] [(0, _)] .d1 sl32 ty63 rfl rfl rfl rfl rfl rfl (fun b25700 hb25700 => ?_)
             have o25701 : OL (Rep.pair Rep.str (Rep.int .i64)) G25622 [.string u25651.1, .int .i64 u25651.2] ([u25651] : List (ByteArray × Int)) := ((OL.cons rfl (Rep.pairI (Rep.strI u25651.1) (Rep.intI .i64 u25651.2)) (OL.nil (Rp' := (Rep.pair Rep.str (Rep.int .i64))))) :)
             refine Cov.reval 158 (n' := ([u25651] : List (ByteArray × Int)).length) rfl rfl ?_;refine Cov.clsL (HpLe.refl _) (pick_mem [0, 1, 2] rfl) ?_
             refine Cov.freezeR 0 rfl rfl o25701 [_, _, _, _] rfl B25624 (fun G25703 e25704 B25705 s25706 => ?_)
             refine Cov.takeN 1 rfl he25696 hn25697 ?_
             refine Cov.appR (Q := (Rep.pair Rep.str (Rep.int .i64))) 0 .d1 sl32 ty63 rfl rfl rfl rfl rfl (OL.mono e25704 ho25698) rfl rfl s25706 rfl List.mem_cons_self hu25674 rfl (fun a25709 k25710 cs25711 o25712 => ?_)
             refine Cov.clsL e25704 (pick_mem [0, 1, 2] rfl) ?_
             obtain ⟨e25714, he25715, hn25716, ho25717, p25718⟩ := NL.get (NL.mono e25704 o25629) hu25676
             refine Cov.q .d2 (.idxO 1 rfl rfl rfl hu25676 sl29 ty32.sz) rfl ?_
             refine Cov.storeN 0 1 (Q := (Rep.pair Rep.str (Rep.int .i64))) .d2 rfl rfl rfl (NL.mono e25704 o25629) he25696 o25712 hu25682 rfl (.inl ⟨rfl, rfl⟩) rfl ty32 rfl (fun es25719 cs25720 hlcs25720 o25721 => ?_)
             refine Cov.reval 147 hlcs25720 rfl ?_;refine Cov.reval 150 hlcs25720 rfl ?_;refine Cov.recell 0 [_, _, _, .slice a5207 u25682.length k5208] rfl (by rw [hlcs25720]) [_, _, _] rfl ?_;refine Cov.draw_end ?_;refine Cov.prune [(141, _), (21, _), (8, _), (6, _), (139, _), (140, _)] ⟨rfl, rfl, rfl, rfl, rfl, rfl, trivial⟩ ?_;refine Cov.inBlock ?_;refine Cov.region rfl ?_;refine Cov.q .ro (.addw rfl rfl) rfl ?_;refine Cov.q .ro (.move rfl) rfl ?_
             refine Cov.region_end ?_
             refine Cov.prune _ ?_ (Cov.same rfl rfl rfl (hb25634 ((i25619 + 1), xs25647, G25703, u25682, es25719, cs25720) ⟨(HpLe.trans e25623 e25704), B25705, o25721, (hlcs25720.trans hl25630), (drop_succ g25621), r25691⟩ (Nat.lt_succ_self _)))
             exact ⟨(congrArg (fun z => some (Value.int .i64 z)) (idx_wrap (OL.len' o1165) g25621)), rfl, rfl, rfl, rfl, rfl, trivial⟩
            ·refine Cov.lit [_, _] [(0, _)] .d1 sl32 ty63 rfl rfl rfl rfl rfl rfl (fun b25723 hb25723 => ?_)
             have o25724 : OL (Rep.pair Rep.str (Rep.int .i64)) G25622 [.string u25651.1, .int .i64 u25651.2] ([u25651] : List (ByteArray × Int)) := ((OL.cons rfl (Rep.pairI (Rep.strI u25651.1) (Rep.intI .i64 u25651.2)) (OL.nil (Rp' := (Rep.pair Rep.str (Rep.int .i64))))) :)
             refine Cov.reval 158 (n' := ([u25651] : List (ByteArray × Int)).length) rfl rfl ?_;refine Cov.clsL (HpLe.refl _) (pick_mem [0, 1, 2] rfl) ?_;refine Cov.q .d1 (.loadO 1 0 rfl hu25655 p25699 rfl (.inl ⟨rfl, rfl⟩) ty32 rfl) rfl ?_;refine Cov.clsL (HpLe.refl _) (pick_mem [0, 1, 2] rfl) ?_
             refine Cov.freezeR 0 rfl rfl o25724 [_, _, _, _] rfl B25624 (fun G25726 e25727 B25728 s25729 => ?_)
             refine Cov.takeN 1 rfl he25696 hn25697 ?_
             refine Cov.appR (Q := (Rep.pair Rep.str (Rep.int .i64))) 0 .d1 sl32 ty63 rfl rfl rfl rfl rfl (OL.mono e25727 ho25698) rfl rfl s25729 rfl List.mem_cons_self hu25674 rfl (fun a25732 k25733 cs25734 o25735 => ?_)
             refine Cov.clsL e25727 (pick_mem [0, 1, 2] rfl) ?_
             obtain ⟨e25737, he25738, hn25739, ho25740, p25741⟩ := NL.get (NL.mono e25727 o25629) hu25676
             refine Cov.q .d2 (.idxO 1 rfl rfl rfl hu25676 sl29 ty32.sz) rfl ?_
             refine Cov.storeN 0 1 (Q := (Rep.pair Rep.str (Rep.int .i64))) .d2 rfl rfl rfl (NL.mono e25727 o25629) he25696 o25735 hu25682 rfl (.inl ⟨rfl, rfl⟩) rfl ty32 rfl (fun es25742 cs25743 hlcs25743 o25744 => ?_)
             refine Cov.reval 147 hlcs25743 rfl ?_;refine Cov.reval 150 hlcs25743 rfl ?_;refine Cov.recell 0 [_, _, _, .slice a5207 u25682.length k5208] rfl (by rw [hlcs25743]) [_, _, _] rfl ?_;refine Cov.draw_end ?_;refine Cov.prune [(141, _), (21, _), (8, _), (6, _), (139, _), (140, _)] ⟨rfl, rfl, rfl, rfl, rfl, rfl, trivial⟩ ?_;refine Cov.inBlock ?_;refine Cov.region rfl ?_;refine Cov.q .ro (.addw rfl rfl) rfl ?_;refine Cov.q .ro (.move rfl) rfl ?_
             refine Cov.region_end ?_
             refine Cov.prune _ ?_ (Cov.same rfl rfl rfl (hb25634 ((i25619 + 1), xs25647, G25726, u25682, es25742, cs25743) ⟨(HpLe.trans e25623 e25727), B25728, o25744, (hlcs25743.trans hl25630), (drop_succ g25621), r25691⟩ (Nat.lt_succ_self _)))
             exact ⟨(congrArg (fun z => some (Value.int .i64 z)) (idx_wrap (OL.len' o1165) g25621)), rfl, rfl, rfl, rfl, rfl, trivial⟩
           ·refine Cov.lit [_, _] [(0, _)] .d1 sl32 ty63 rfl rfl rfl rfl rfl rfl (fun b25746 hb25746 => ?_)
            have o25747 : OL (Rep.pair Rep.str (Rep.int .i64)) G25622 [.string u25651.1, .int .i64 u25651.2] ([u25651] : List (ByteArray × Int)) := ((OL.cons rfl (Rep.pairI (Rep.strI u25651.1) (Rep.intI .i64 u25651.2)) (OL.nil (Rp' := (Rep.pair Rep.str (Rep.int .i64))))) :)
            refine Cov.reval 158 (n' := ([u25651] : List (ByteArray × Int)).length) rfl rfl ?_;refine Cov.clsL (HpLe.refl _) (pick_mem [0, 1, 2] rfl) ?_
            obtain ⟨e25749, he25750, hn25751, ho25752, p25753⟩ := NL.get o25629 hu25655
            refine Cov.q .d1 (.idxO 1 rfl rfl rfl hu25655 sl29 ty32.sz) rfl ?_;refine Cov.clsL (HpLe.refl _) (pick_mem [0, 1, 2] rfl) ?_;refine Cov.q .d1 (.loadO 1 0 rfl hu25655 p25753 rfl (.inl ⟨rfl, rfl⟩) ty32 rfl) rfl ?_;refine Cov.clsL (HpLe.refl _) (pick_mem [0, 1, 2] rfl) ?_
            refine Cov.freezeR 0 rfl rfl o25747 [_, _, _, _] rfl B25624 (fun G25754 e25755 B25756 s25757 => ?_)
            refine Cov.takeN 1 rfl he25750 hn25751 ?_
            refine Cov.appR (Q := (Rep.pair Rep.str (Rep.int .i64))) 0 .d1 sl32 ty63 rfl rfl rfl rfl rfl (OL.mono e25755 ho25752) rfl rfl s25757 rfl List.mem_cons_self hu25674 rfl (fun a25760 k25761 cs25762 o25763 => ?_)
            refine Cov.clsL e25755 (pick_mem [0, 1, 2] rfl) ?_
            obtain ⟨e25765, he25766, hn25767, ho25768, p25769⟩ := NL.get (NL.mono e25755 o25629) hu25676
            refine Cov.q .d2 (.idxO 1 rfl rfl rfl hu25676 sl29 ty32.sz) rfl ?_
            refine Cov.storeN 0 1 (Q := (Rep.pair Rep.str (Rep.int .i64))) .d2 rfl rfl rfl (NL.mono e25755 o25629) he25750 o25763 hu25682 rfl (.inl ⟨rfl, rfl⟩) rfl ty32 rfl (fun es25770 cs25771 hlcs25771 o25772 => ?_)
            refine Cov.reval 147 hlcs25771 rfl ?_;refine Cov.reval 150 hlcs25771 rfl ?_;refine Cov.recell 0 [_, _, _, .slice a5207 u25682.length k5208] rfl (by rw [hlcs25771]) [_, _, _] rfl ?_;refine Cov.draw_end ?_;refine Cov.prune [(141, _), (21, _), (8, _), (6, _), (139, _), (140, _)] ⟨rfl, rfl, rfl, rfl, rfl, rfl, trivial⟩ ?_;refine Cov.inBlock ?_;refine Cov.region rfl ?_;refine Cov.q .ro (.addw rfl rfl) rfl ?_;refine Cov.q .ro (.move rfl) rfl ?_
            refine Cov.region_end ?_
            refine Cov.prune _ ?_ (Cov.same rfl rfl rfl (hb25634 ((i25619 + 1), xs25647, G25754, u25682, es25770, cs25771) ⟨(HpLe.trans e25623 e25755), B25756, o25772, (hlcs25771.trans hl25630), (drop_succ g25621), r25691⟩ (Nat.lt_succ_self _)))
            exact ⟨(congrArg (fun z => some (Value.int .i64 z)) (idx_wrap (OL.len' o1165) g25621)), rfl, rfl, rfl, rfl, rfl, trivial⟩
        ·intro hb29702
         refine Cov.drawL (.q 0 (.q 1 (.q 2 (.q 3 (.q 6 (.q 7 (.q 8 (.alt (.e 4 1 (.q 5 (.alt (.e 9 1 (.q 10 (.e 11 1 (.e 12 2 .nil)))) (.e 11 1 (.e 9 1 (.q 10 (.e 12 2 .nil))))))) (.alt (.e 9 1 (.alt (.e 4 1 (.q 5 (.q 10 (.e 11 1 (.e 12 2 .nil))))) (.e 11 1 (.e 4 1 (.q 5 (.q 10 (.e 12 2 .nil))))))) (.e 11 1 (.alt (.e 4 1 (.q 5 (.e 9 1 (.q 10 (.e 12 2 .nil))))) (.e 9 1 (.e 4 1 (.q 5 (.q 10 (.e 12 2 .nil)))))))))))))))) [_, _] (by kernel_rfl) (by kernel_rfl) (pick_mem [0, 1] rfl) ?_
         obtain ⟨u29708, hu29708, r29718⟩ := bind_some r1168; clear r1168
         obtain ⟨u29710, hu29710, r29719⟩ := bind_some r29718; clear r29718
         refine Cov.dq (.fieldAddr 0 rfl fl28_0 ty3.sz rfl) rfl ?_;refine Cov.dq (.load_own 1 rfl rfl ty3 rfl) rfl ?_;refine Cov.dq (.fieldAddr 1 rfl fl28_1 ty26.sz rfl) rfl ?_;refine Cov.dq (.load_own 1 rfl rfl ty26 rfl) rfl ?_;refine Cov.dq (.move rfl) rfl ?_;refine Cov.dq (.fieldAddr 0 rfl fl28_0 ty3.sz rfl) rfl ?_;refine Cov.dq (.load_own 1 rfl rfl ty3 rfl) rfl ?_;refine Cov.alt ?_ ?_
         ·refine Cov.own_nil 70 2 ?_
          refine Cov.appR (Q := (Rep.pair (Rep.int .i64) (Rep.int .i64))) 0 .d1 sl26 ty70 rfl rfl rfl rfl rfl (OL.nil (Rp' := (Rep.pair (Rep.int .i64) (Rep.int .i64)))) rfl rfl (SlR.mono (HpLe.trans e1135 e1153) s0_1) rfl List.mem_cons_self hu29708 rfl (fun a29721 k29722 cs29723 o29724 => ?_)
          refine Cov.clsL (HpLe.refl _) (pick_mem [0, 1] rfl) ?_;refine Cov.dq (.build [_, _] [(0, _), (1, _)] ty28 pl28 rfl rfl) rfl ?_;refine Cov.alt ?_ ?_
          ·refine Cov.makeN (G := G1152) (Q := (Rep.pair Rep.str (Rep.int .i64))) 63 2 .d1 sl29 ty32 rfl rfl hu29710 rfl rfl (fun b29726 es29727 cs29728 hb29726 o29729 => ?_)
           refine Cov.clsL (HpLe.refl _) (pick_mem [0, 1] rfl) ?_;refine Cov.dq (.build [_, _, _, _] [(0, _), (1, _), (2, _)] ty31 pl31 rfl rfl) rfl ?_
           refine Cov.alloc .d1 ty31 rfl (fun b29732 hb29732 => ?_)
           refine Cov.clsL (HpLe.refl _) (pick_mem [1, 2] rfl) ?_;refine Cov.store 0 [_, _, _, _] [_, _, _] .d2 rfl rfl rfl ty31 rfl rfl rfl rfl ?_;refine Cov.draw_end ?_;refine Cov.prune [(8, _), (6, _), (19, _), (21, _)] ⟨rfl, rfl, rfl, rfl, trivial⟩ ?_;refine Cov.pullS 4 rfl [_, _, _, _, _] rfl ?_;refine Cov.pullS 4 rfl [_, _, _, _, _] rfl ?_;refine Cov.pullS 3 rfl [_, _, _, _, _] rfl ?_;refine Cov.pullS 3 rfl [_, _, _, _, _] rfl ?_;refine Cov.pullS 4 rfl [_, _, _, _, _] rfl ?_
           refine Cov.prune _ ?_ (Cov.same rfl rfl rfl (hb29702 (b29732, v1146, u29708, a29721, k29722, cs29723, x1, u29710, (some ⟨b29726, 0, none⟩), u29710.length, es29727, cs29728) ⟨o29724, o29729, r29719⟩))
           exact ⟨rfl, rfl, rfl, rfl, trivial⟩
          ·refine Cov.alloc .d1 ty31 rfl (fun b29733 hb29733 => ?_)
           refine Cov.clsL (HpLe.refl _) (pick_mem [1, 2] rfl) ?_
           refine Cov.makeN (G := G1152) (Q := (Rep.pair Rep.str (Rep.int .i64))) 63 2 .d1 sl29 ty32 rfl rfl hu29710 rfl rfl (fun b29734 es29735 cs29736 hb29734 o29737 => ?_)
           refine Cov.clsL (HpLe.refl _) (pick_mem [1, 2] rfl) ?_;refine Cov.dq (.build [_, _, _, _] [(0, _), (1, _), (2, _)] ty31 pl31 rfl rfl) rfl ?_;refine Cov.store 0 [_, _, _, _] [_, _, _] .d2 rfl rfl rfl ty31 rfl rfl rfl rfl ?_;refine Cov.draw_end ?_;refine Cov.prune [(8, _), (6, _), (19, _), (21, _)] ⟨rfl, rfl, rfl, rfl, trivial⟩ ?_;refine Cov.pullS 4 rfl [_, _, _, _, _] rfl ?_;refine Cov.pullS 4 rfl [_, _, _, _, _] rfl ?_;refine Cov.pullS 3 rfl [_, _, _, _, _] rfl ?_;refine Cov.pullS 3 rfl [_, _, _, _, _] rfl ?_
           refine Cov.pullS 4 rfl [_, _, _, _, _] rfl ?_
           refine Cov.prune _ ?_ (Cov.same rfl rfl rfl (hb29702 (b29733, v1146, u29708, a29721, k29722, cs29723, x1, u29710, (some ⟨b29734, 0, none⟩), u29710.length, es29735, cs29736) ⟨o29724, o29737, r29719⟩))
           exact ⟨rfl, rfl, rfl, rfl, trivial⟩
         ·refine Cov.alt ?_ ?_
          ·refine Cov.makeN (G := G1152) (Q := (Rep.pair Rep.str (Rep.int .i64))) 63 2 .d1 sl29 ty32 rfl rfl hu29710 rfl rfl (fun b29740 es29741 cs29742 hb29740 o29743 => ?_)
           refine Cov.clsL (HpLe.refl _) (pick_mem [0, 1] rfl) ?_;refine Cov.alt ?_ ?_
           ·refine Cov.own_nil 70 2 ?_
            refine Cov.appR (Q := (Rep.pair (Rep.int .i64) (Rep.int .i64))) 0 .d1 sl26 ty70 rfl rfl rfl rfl rfl (OL.nil (Rp' := (Rep.pair (Rep.int .i64) (Rep.int .i64)))) rfl rfl (SlR.mono (HpLe.trans e1135 e1153) s0_1) rfl List.mem_cons_self hu29708 rfl (fun a29747 k29748 cs29749 o29750 => ?_)
            refine Cov.clsL (HpLe.refl _) (pick_mem [0, 1] rfl) ?_;refine Cov.dq (.build [_, _] [(0, _), (1, _)] ty28 pl28 rfl rfl) rfl ?_;refine Cov.dq (.build [_, _, _, _] [(0, _), (1, _), (2, _)] ty31 pl31 rfl rfl) rfl ?_
            refine Cov.alloc .d1 ty31 rfl (fun b29752 hb29752 => ?_)
            refine Cov.clsL (HpLe.refl _) (pick_mem [1, 2] rfl) ?_;refine Cov.store 0 [_, _, _, _] [_, _, _] .d2 rfl rfl rfl ty31 rfl rfl rfl rfl ?_;refine Cov.draw_end ?_;refine Cov.prune [(8, _), (6, _), (19, _), (21, _)] ⟨rfl, rfl, rfl, rfl, trivial⟩ ?_
            refine Cov.prune _ ?_ (Cov.same rfl rfl rfl (hb29702 (b29752, v1146, u29708, a29747, k29748, cs29749, x1, u29710, (some ⟨b29740, 0, none⟩), u29710.length, es29741, cs29742) ⟨o29750, o29743, r29719⟩))
            exact ⟨rfl, rfl, rfl, rfl, trivial⟩
           ·refine Cov.alloc .d1 ty31 rfl (fun b29753 hb29753 => ?_)
            refine Cov.clsL (HpLe.refl _) (pick_mem [1, 2] rfl) ?_;refine Cov.own_nil 70 2 ?_
            refine Cov.appR (Q := (Rep.pair (Rep.int .i64) (Rep.int .i64))) 0 .d1 sl26 ty70 rfl rfl rfl rfl rfl (OL.nil (Rp' := (Rep.pair (Rep.int .i64) (Rep.int .i64)))) rfl rfl (SlR.mono (HpLe.trans e1135 e1153) s0_1) rfl List.mem_cons_self hu29708 rfl (fun a29755 k29756 cs29757 o29758 => ?_)
            refine Cov.clsL (HpLe.refl _) (pick_mem [1, 2] rfl) ?_;refine Cov.dq (.build [_, _] [(0, _), (1, _)] ty28 pl28 rfl rfl) rfl ?_;refine Cov.dq (.build [_, _, _, _] [(0, _), (1, _), (2, _)] ty31 pl31 rfl rfl) rfl ?_;refine Cov.store 0 [_, _, _, _] [_, _, _] .d2 rfl rfl rfl ty31 rfl rfl rfl rfl ?_;refine Cov.draw_end ?_;refine Cov.prune [(8, _), (6, _), (19, _), (21, _)] ⟨rfl, rfl, rfl, rfl, trivial⟩ ?_
            refine Cov.prune _ ?_ (Cov.same rfl rfl rfl (hb29702 (b29753, v1146, u29708, a29755, k29756, cs29757, x1, u29710, (some ⟨b29740, 0, none⟩), u29710.length, es29741, cs29742) ⟨o29758, o29743, r29719⟩))
            exact ⟨rfl, rfl, rfl, rfl, trivial⟩
          ·refine Cov.alloc .d1 ty31 rfl (fun b29760 hb29760 => ?_)
           refine Cov.clsL (HpLe.refl _) (pick_mem [1, 2] rfl) ?_;refine Cov.alt ?_ ?_
           ·refine Cov.own_nil 70 2 ?_
            refine Cov.appR (Q := (Rep.pair (Rep.int .i64) (Rep.int .i64))) 0 .d1 sl26 ty70 rfl rfl rfl rfl rfl (OL.nil (Rp' := (Rep.pair (Rep.int .i64) (Rep.int .i64)))) rfl rfl (SlR.mono (HpLe.trans e1135 e1153) s0_1) rfl List.mem_cons_self hu29708 rfl (fun a29762 k29763 cs29764 o29765 => ?_)
            refine Cov.clsL (HpLe.refl _) (pick_mem [1, 2] rfl) ?_;refine Cov.dq (.build [_, _] [(0, _), (1, _)] ty28 pl28 rfl rfl) rfl ?_
            refine Cov.makeN (G := G1152) (Q := (Rep.pair Rep.str (Rep.int .i64))) 63 2 .d1 sl29 ty32 rfl rfl hu29710 rfl rfl (fun b29767 es29768 cs29769 hb29767 o29770 => ?_)
            refine Cov.clsL (HpLe.refl _) (pick_mem [1, 2] rfl) ?_;refine Cov.dq (.build [_, _, _, _] [(0, _), (1, _), (2, _)] ty31 pl31 rfl rfl) rfl ?_;refine Cov.store 0 [_, _, _, _] [_, _, _] .d2 rfl rfl rfl ty31 rfl rfl rfl rfl ?_;refine Cov.draw_end ?_;refine Cov.prune [(8, _), (6, _), (19, _), (21, _)] ⟨rfl, rfl, rfl, rfl, trivial⟩ ?_;refine Cov.pullS 4 rfl [_, _, _, _, _] rfl ?_;refine Cov.pullS 4 rfl [_, _, _, _, _] rfl ?_;refine Cov.pullS 3 rfl [_, _, _, _, _] rfl ?_;refine Cov.pullS 3 rfl [_, _, _, _, _] rfl ?_
            refine Cov.pullS 4 rfl [_, _, _, _, _] rfl ?_
            refine Cov.prune _ ?_ (Cov.same rfl rfl rfl (hb29702 (b29760, v1146, u29708, a29762, k29763, cs29764, x1, u29710, (some ⟨b29767, 0, none⟩), u29710.length, es29768, cs29769) ⟨o29765, o29770, r29719⟩))
            exact ⟨rfl, rfl, rfl, rfl, trivial⟩
           ·refine Cov.makeN (G := G1152) (Q := (Rep.pair Rep.str (Rep.int .i64))) 63 2 .d1 sl29 ty32 rfl rfl hu29710 rfl rfl (fun b29773 es29774 cs29775 hb29773 o29776 => ?_)
            refine Cov.clsL (HpLe.refl _) (pick_mem [1, 2] rfl) ?_;refine Cov.own_nil 70 2 ?_
            refine Cov.appR (Q := (Rep.pair (Rep.int .i64) (Rep.int .i64))) 0 .d1 sl26 ty70 rfl rfl rfl rfl rfl (OL.nil (Rp' := (Rep.pair (Rep.int .i64) (Rep.int .i64)))) rfl rfl (SlR.mono (HpLe.trans e1135 e1153) s0_1) rfl List.mem_cons_self hu29708 rfl (fun a29780 k29781 cs29782 o29783 => ?_)
            refine Cov.clsL (HpLe.refl _) (pick_mem [1, 2] rfl) ?_;refine Cov.dq (.build [_, _] [(0, _), (1, _)] ty28 pl28 rfl rfl) rfl ?_;refine Cov.dq (.build [_, _, _, _] [(0, _), (1, _), (2, _)] ty31 pl31 rfl rfl) rfl ?_;refine Cov.store 0 [_, _, _, _] [_, _, _] .d2 rfl rfl rfl ty31 rfl rfl rfl rfl ?_;refine Cov.draw_end ?_;refine Cov.prune [(8, _), (6, _), (19, _), (21, _)] ⟨rfl, rfl, rfl, rfl, trivial⟩ ?_
            refine Cov.prune _ ?_ (Cov.same rfl rfl rfl (hb29702 (b29760, v1146, u29708, a29780, k29781, cs29782, x1, u29710, (some ⟨b29773, 0, none⟩), u29710.length, es29774, cs29775) ⟨o29783, o29776, r29719⟩))
            exact ⟨rfl, rfl, rfl, rfl, trivial⟩
      ·intro hb33730
       refine Cov.block ?_;refine Cov.own_nil 39 1 ?_
       refine Cov.loop2 (α := Nat × (List (ByteArray × Int)) × Hp × List (List Int) × Option Addr × Nat × List Value) (fun y => [(14, .slice y.2.2.2.2.1 y.2.2.2.1.length y.2.2.2.2.2.1), (101, .int .i64 (y.1 : Int))]) [(8, _), (1, _), (3, _), (6, _), (99, _), (100, _)] (fun y => [y.2.2.1]) (fun y => []) [_, _] (fun y => [.s (.slice y.2.2.2.2.1 y.2.2.2.1.length y.2.2.2.2.2.1) 39 1 y.2.2.2.1.length y.2.2.2.2.2.2]) [_] (fun y => HpLe G y.2.2.1 ∧ Bd w0 S0 Fs y.2.2.1 ∧ OL (Rep.sl (Rep.int .i64)) y.2.2.1 y.2.2.2.2.2.2 y.2.2.2.1 ∧ List.drop y.1 v987 = y.2.1 ∧ ref20_Build_L5 (ref20_Build_J4 x1 x0_1 v987) v993 v994 v995 x0_1 y.2.1 y.2.2.2.1 = some r) (fun y => y.2.1.length) (0, v987, G, ([] : List (List Int)), none, 0, []) ⟨(HpLe.refl _), B0, (OL.nil (Rp' := (Rep.sl (Rep.int .i64)))), rfl, r997⟩ ⟨rfl, rfl, rfl, rfl, rfl, rfl, rfl, rfl, trivial⟩ rfl rfl rfl (fun y hI hb33827 => ?_)
       obtain ⟨i33813, w33814, G33816, v33820, a33821, k33822, cs33823⟩ := y
       obtain ⟨e33817, B33818, o33824, g33815, r33826⟩ := hI
       try dsimp only at e33817 B33818 o33824 g33815 r33826
       refine Cov.prune [(14, .slice a33821 v33820.length k33822), (101, .int .i64 (i33813 : Int)), (8, _), (1, _), (3, _), (6, _), (99, _), (100, _)] ⟨rfl, rfl, rfl, rfl, rfl, rfl, rfl, rfl, trivial⟩ ?_;refine Cov.same (bl' := [_, _]) (sl' := [.s (.slice a33821 v33820.length k33822) 39 1 v33820.length cs33823, _]) (Fs' := G33816 :: Fs) rfl rfl rfl ?_
       cases w33814 with
       | nil =>
        rw [ref20_Build_L5] at r33826; try dsimp only at r33826
        refine Cov.seq ?_;refine Cov.region rfl ?_;refine Cov.q .ro (.lss rfl rfl) rfl ?_;refine Cov.region_end ?_;refine Cov.seq ?_
        refine Cov.cond_dec rfl (fun c => absurd c (drop_nil g33815)) (fun _ => ?_)
        refine Cov.exit rfl ?_
        refine Cov.prune _ ?_ (Cov.same rfl rfl rfl (hb33730 (G33816, v33820, a33821, k33822, cs33823, v993, v994, v995) ⟨e33817, B33818, o33824, r33826⟩))
        exact ⟨rfl, rfl, rfl, rfl, rfl, trivial⟩
       | cons x33836 xs33837 =>
        have r33835 : ref20_Build_B5 (ref20_Build_J4 x1 x0_1 v987) v993 v994 v995 x0_1 (ref20_Build_L5 (ref20_Build_J4 x1 x0_1 v987) v993 v994 v995 x0_1 xs33837) x33836 v33820 = some r := r33826; clear r33826; unfold ref20_Build_B5 at r33835; try dsimp only at r33835
        refine Cov.seq ?_;refine Cov.region rfl ?_;refine Cov.q .ro (.lss rfl rfl) rfl ?_;refine Cov.region_end ?_;refine Cov.seq ?_
        refine Cov.cond_dec rfl (fun _ => ?_) (fun c => absurd (drop_lt g33815) c)
        refine Cov.skip ?_;refine Cov.seq ?_;refine Cov.block ?_;refine Cov.seq ?_;refine Cov.region rfl ?_
        obtain ⟨c33838, p33839, h33840⟩ := OL.get (OL.mono e33817 o991) (drop_idx g33815)
        obtain ⟨_, _, rfl, rfl, rfl⟩ := h33840
        refine Cov.q .ro (.idxO 1 rfl rfl rfl (drop_idx g33815) sl32 ty63.sz) rfl ?_;refine Cov.q .ro (.loadO_a 1 0 [_, _] rfl (drop_idx g33815) p33839 rfl (.inl ⟨rfl, rfl⟩) ty63 rfl) rfl ?_
        refine Cov.alloc .ro ty63 rfl (fun b33841 hb33841 => ?_)
        refine Cov.store 0 [_, _] [_, _, _] .ro rfl rfl rfl ty63 rfl rfl rfl rfl ?_;refine Cov.region_end ?_;refine Cov.seq ?_;refine Cov.region rfl ?_;refine Cov.q .ro (.load_own_a 2 [_, _] rfl rfl ty28 rfl) rfl ?_;refine Cov.q .ro (.fieldAddr 0 rfl fl63_0 ty9.sz rfl) rfl ?_;refine Cov.q .ro (.load_own 0 rfl rfl ty9 rfl) rfl ?_
        obtain ⟨u33842, hu33842, r33843⟩ := bind_some r33835; clear r33835
        refine Cov.callS (b1 := []) (b2 := [_, _, _]) (s1 := []) [_, _] [] .ro rfl rfl Try.call39 rfl rfl (ref20_Homes_c (G := G33816) List.mem_cons_self (SlR.mono e33817 s0_1) hu33842) rfl (fun v33845 bo so h33844 => ?_)
        obtain ⟨a33847, k33848, cs33849, rfl, rfl, rfl, o33850⟩ := h33844
        refine Cov.same (bl' := [_, _, _]) (sl' := [_, _, _]) rfl rfl rfl ?_;refine Cov.q .ro (.move rfl) rfl ?_;refine Cov.q .ro (.extract rfl rfl) rfl ?_;refine Cov.q .ro (.extract rfl rfl) rfl ?_;refine Cov.q .ro (.assign rfl) rfl ?_;refine Cov.q .ro (.assign rfl) rfl ?_;refine Cov.region_end ?_;refine Cov.region rfl ?_;refine Cov.q .ro (.move rfl) rfl ?_
        refine Cov.q .ro (.move rfl) rfl ?_
        refine Cov.freezeR 0 rfl rfl o33850 [_, _] rfl B33818 (fun G33851 e33852 B33853 s33854 => ?_)
        refine Cov.lit [_] [(0, _)] .ro sl55 ty39 rfl rfl rfl rfl rfl rfl (fun b33856 hb33856 => ?_)
        have o33857 : OL (Rep.sl (Rep.int .i64)) G33851 [.slice a33847 u33842.1.length k33848] ([u33842.1] : List (List Int)) := ((OL.cons rfl (Rep.slI s33854) (OL.nil (Rp' := (Rep.sl (Rep.int .i64))))) :)
        refine Cov.reval 114 (n' := ([u33842.1] : List (List Int)).length) rfl rfl ?_
        obtain ⟨u33863, hu33863, r33864⟩ := bind_some r33843; clear r33843
        refine Cov.appO (Q := (Rep.sl (Rep.int .i64))) 0 .ro sl55 ty39 rfl rfl rfl rfl rfl rfl (OL.mono e33852 o33824) o33857 rfl rfl rfl B33853 hu33863 rfl (fun a33859 k33860 cs33861 o33862 => ?_)
        refine Cov.q .ro (.assign rfl) rfl ?_;refine Cov.region_end ?_;refine Cov.prune [(14, _), (101, _), (8, _), (1, _), (3, _), (6, _), (99, _), (100, _)] ⟨rfl, rfl, rfl, rfl, rfl, rfl, rfl, rfl, trivial⟩ ?_;refine Cov.inBlock ?_;refine Cov.region rfl ?_;refine Cov.q .ro (.addw rfl rfl) rfl ?_;refine Cov.q .ro (.move rfl) rfl ?_;refine Cov.region_end ?_;refine Cov.drop 1 0 [_, _] _ rfl rfl ?_
        refine Cov.prune _ ?_ (Cov.same rfl rfl rfl (hb33827 ((i33813 + 1), xs33837, G33851, u33863, a33859, k33860, cs33861) ⟨(HpLe.trans e33817 e33852), B33853, o33862, (drop_succ g33815), r33864⟩ (Nat.lt_succ_self _)))
        exact ⟨rfl, (congrArg (fun z => some (Value.int .i64 z)) (idx_wrap (OL.len' o991) g33815)), rfl, rfl, rfl, rfl, rfl, rfl, trivial⟩
     ·intro hb33866
      refine Cov.block ?_;refine Cov.own_nil 63 2 ?_;refine Cov.pull 1 rfl [_, _] rfl ?_;refine Cov.pull 1 rfl [_, _] rfl ?_
      refine Cov.loop2 (α := Nat × (List (ByteArray × Int)) × (List (ByteArray × Int)) × Option Addr × Nat × List Value × Int × Int × Int) (fun y => [(8, .slice y.2.2.2.1 y.2.2.1.length y.2.2.2.2.1), (41, .int .i64 (y.1 : Int))]) [(1, _), (2, _), (3, _), (6, _), (39, _), (40, _)] (fun y => []) (fun y => [(b2, .cells #[.int .i64 y.2.2.2.2.2.2.1, .slice none 0 0, .int .i64 y.2.2.2.2.2.2.2.1, .slice none 0 0] 31 (0, 0)), (b1, .cells #[.int .i64 y.2.2.2.2.2.2.2.2, .slice a0_1 x0_1.length k0_1] 28 (0, 0))]) [] (fun y => [.s (.slice y.2.2.2.1 y.2.2.1.length y.2.2.2.2.1) 63 2 y.2.2.1.length y.2.2.2.2.2.1]) [] (fun y => OL (Rep.pair Rep.str (Rep.int .i64)) G y.2.2.2.2.2.1 y.2.2.1 ∧ List.drop y.1 x2 = y.2.1 ∧ ref20_Build_L11 (ref20_Build_J6 x1 x0_1) x2 y.2.1 y.1 y.2.2.1 y.2.2.2.2.2.2.1 y.2.2.2.2.2.2.2.1 y.2.2.2.2.2.2.2.2 = some r) (fun y => y.2.1.length) (0, x2, ([] : List (ByteArray × Int)), none, 0, [], 0, 0, x0_0) ⟨(OL.nil (Rp' := (Rep.pair Rep.str (Rep.int .i64)))), rfl, r19⟩ ⟨rfl, rfl, rfl, rfl, rfl, rfl, rfl, rfl, trivial⟩ rfl rfl rfl (fun y hI hb34514 => ?_)
      obtain ⟨i34501, w34502, v34504, a34505, k34506, cs34507, v34510, v34511, v34512⟩ := y
      obtain ⟨o34508, g34503, r34513⟩ := hI
      try dsimp only at o34508 g34503 r34513
      refine Cov.prune [(8, .slice a34505 v34504.length k34506), (41, .int .i64 (i34501 : Int)), (1, _), (2, _), (3, _), (6, _), (39, _), (40, _)] ⟨rfl, rfl, rfl, rfl, rfl, rfl, rfl, rfl, trivial⟩ ?_;refine Cov.same (bl' := [(b2, .cells #[.int .i64 v34510, .slice none 0 0, .int .i64 v34511, .slice none 0 0] 31 (0, 0)), (b1, .cells #[.int .i64 v34512, .slice a0_1 x0_1.length k0_1] 28 (0, 0))]) (sl' := [.s (.slice a34505 v34504.length k34506) 63 2 v34504.length cs34507]) (Fs' := G :: Fs) rfl rfl rfl ?_
      cases w34502 with
      | nil =>
       rw [ref20_Build_L11] at r34513; try dsimp only at r34513
       refine Cov.seq ?_;refine Cov.region rfl ?_;refine Cov.q .ro (.lss rfl rfl) rfl ?_;refine Cov.region_end ?_;refine Cov.seq ?_
       refine Cov.cond_dec rfl (fun c => absurd c (drop_nil g34503)) (fun _ => ?_)
       refine Cov.exit rfl ?_
       refine Cov.prune _ ?_ (Cov.same rfl rfl rfl (hb33866 (v34504, a34505, k34506, cs34507, v34510, v34511, v34512) ⟨o34508, r34513⟩))
       exact ⟨rfl, rfl, rfl, rfl, trivial⟩
      | cons x34520 xs34521 =>
       have r34519 : ref20_Build_B11 (ref20_Build_J6 x1 x0_1) x2 (ref20_Build_L11 (ref20_Build_J6 x1 x0_1) x2 xs34521 (i34501 + 1)) x34520 i34501 v34504 v34510 v34511 v34512 = some r := r34513; clear r34513; unfold ref20_Build_B11 at r34519; try dsimp only at r34519
       refine Cov.seq ?_;refine Cov.region rfl ?_;refine Cov.q .ro (.lss rfl rfl) rfl ?_;refine Cov.region_end ?_;refine Cov.seq ?_
       refine Cov.cond_dec rfl (fun _ => ?_) (fun c => absurd (drop_lt g34503) c)
       refine Cov.skip ?_;refine Cov.seq ?_;refine Cov.block ?_;refine Cov.seq ?_;refine Cov.region rfl ?_;refine Cov.q .ro (.move rfl) rfl ?_
       obtain ⟨c34522, p34523, h34524⟩ := SlR.get s2 (drop_idx g34503)
       obtain ⟨_, _, rfl, rfl, rfl⟩ := h34524
       refine Cov.q .ro (.idxR s2 rfl rfl (drop_idx g34503) sl32 ty63.sz) rfl ?_;refine Cov.q .ro (.load_rp_a [_, _] p34523 List.mem_cons_self rfl ty63 rfl) rfl ?_
       refine Cov.alloc .ro ty63 rfl (fun b34525 hb34525 => ?_)
       refine Cov.q .ro (.assign rfl) rfl ?_;refine Cov.store 0 [_, _] [_, _, _] .ro rfl rfl rfl ty63 rfl rfl rfl rfl ?_;refine Cov.region_end ?_;refine Cov.seq ?_;refine Cov.seq ?_;refine Cov.region rfl ?_;refine Cov.q .ro (.load_own_a 0 [_, _] rfl rfl ty63 rfl) rfl ?_
       obtain ⟨u34526, hu34526, r34527⟩ := bind_some r34519; clear r34519
       refine Cov.callS (b1 := []) (b2 := [_, _, _]) (s1 := []) [_] [] .ro rfl rfl Try.call38 rfl rfl (ref20_valid_c (G := G) List.mem_cons_self  hu34526) rfl (fun v34529 bo so h34528 => ?_)
       obtain ⟨rfl, rfl, rfl⟩ := h34528
       refine Cov.same (bl' := [_, _, _]) (sl' := [_]) rfl rfl rfl ?_;refine Cov.q .ro (.not rfl) rfl ?_;refine Cov.region_end ?_
       refine Cov.cond rfl (fun c34530 => ?_) (fun c34530 => ?_)
       ·have r34531 := ifT r34527 c34530; clear r34527
        refine Cov.seq ?_;refine Cov.region rfl ?_;refine Cov.q .ro (.build [_, _, _, _] [] ty31 pl31 rfl rfl) rfl ?_;refine Cov.store 1 [_, _, _, _] [_, _, _] .ro rfl rfl rfl ty31 rfl rfl rfl rfl ?_;refine Cov.q .ro (.assign rfl) rfl ?_;refine Cov.region_end ?_;refine Cov.prune [(6, _), (7, _)] ⟨rfl, rfl, trivial⟩ ?_
        cases r34531
        refine Cov.drop 0 1 _ [] rfl rfl ?_
        refine Cov.retWD 3 (c := ⟨19, none⟩) (.inr ⟨_, rfl⟩) [.cell 6 31, .tmp 7] [_, _] rfl Try.func19 Try.results19 ⟨RV.cell_a 1 [_, _, _, _] rfl rfl ty31 rfl, RV.tmp rfl, trivial⟩ (fun _ h => List.mem_cons_of_mem _ h) List.mem_cons_self B0 (by subst hS0; simp [blks]) (fun G' hg => ⟨none, 0, none, 0, rfl, rfl, rfl, (SlR.mono hg (SlR.nil (Rp' := (Rep.pair (Rep.int .i64) (Rep.int .i64))))), (SlR.mono hg (SlR.nil (Rp' := (Rep.sl (Rep.pair Rep.str (Rep.int .i64))))))⟩)
       ·have r34532 := ifBF r34527 c34530; clear r34527
        refine Cov.skip ?_;refine Cov.seq ?_;refine Cov.seq ?_;refine Cov.region rfl ?_;refine Cov.q .ro (.move rfl) rfl ?_;refine Cov.q .ro (.move rfl) rfl ?_
        obtain ⟨u34533, hu34533, r34534⟩ := bind_some r34532; clear r34532
        obtain ⟨a34535, k34536, h34537, s34538⟩ := SlR.sub s2 hu34533
        refine Cov.q .ro (.sliceR s2 rfl hu34533 sl32 ty63.sz (fun _ => .no) (fun h => .yes' rfl h) h34537) rfl ?_;refine Cov.q .ro (.len_sl rfl rfl sl32) rfl ?_;refine Cov.q .ro (.move rfl) rfl ?_;refine Cov.region_end ?_;refine Cov.cutB (β := ByteArray × Int × Int × Int × Int) (fun y => []) [(8, _), (41, _), (1, _), (2, _), (3, _), (6, _), (39, _), (40, _), (10, _)] (fun y => G :: Fs) (fun y => [(b34525, .cells #[.string y.1, .int .i64 y.2.1] 63 (0, 0)), (b2, .cells #[.int .i64 y.2.2.1, .slice none 0 0, .int .i64 y.2.2.2.1, .slice none 0 0] 31 (0, 0)), (b1, .cells #[.int .i64 y.2.2.2.2, .slice a0_1 x0_1.length k0_1] 28 (0, 0))]) [] (fun y => []) [_] (fun y => (ref20_Build_J9 (ref20_Build_L11 (ref20_Build_J6 x1 x0_1) x2 xs34521 (i34501 + 1)) v34504) y.1 y.2.1 y.2.2.1 y.2.2.2.1 y.2.2.2.2 = some r) ⟨rfl, rfl, rfl, rfl, rfl, rfl, rfl, rfl, rfl, trivial⟩ [] rfl [0] rfl ?_ ?_
        ·intro y hI
         obtain ⟨v34587, v34588, v34589, v34590, v34591⟩ := y
         have r34593 := hI; clear hI
         try dsimp only at r34593
         refine Cov.prune [(8, _), (41, _), (1, _), (2, _), (3, _), (6, _), (39, _), (40, _), (10, _)] ⟨rfl, rfl, rfl, rfl, rfl, rfl, rfl, rfl, rfl, trivial⟩ ?_;refine Cov.same (bl' := [(b34525, .cells #[.string v34587, .int .i64 v34588] 63 (0, 0)), (b2, .cells #[.int .i64 v34589, .slice none 0 0, .int .i64 v34590, .slice none 0 0] 31 (0, 0)), (b1, .cells #[.int .i64 v34591, .slice a0_1 x0_1.length k0_1] 28 (0, 0))]) (sl' := [_]) (Fs' := G :: Fs) rfl rfl rfl ?_
         unfold ref20_Build_J9 at r34593
         try dsimp only at r34593
         refine Cov.seq ?_;refine Cov.region rfl ?_;refine Cov.q .ro (.move rfl) rfl ?_;refine Cov.q .ro (.len_sl rfl rfl sl32) rfl ?_;refine Cov.q .ro (.assign rfl) rfl ?_;refine Cov.region_end ?_;refine Cov.seq ?_;refine Cov.cutB (β := Int × ByteArray × Int × Int × Int × Int) (fun y => [(13, .int .i64 y.1)]) [(8, _), (41, _), (1, _), (2, _), (3, _), (6, _), (39, _), (40, _), (10, _)] (fun y => G :: Fs) (fun y => [(b34525, .cells #[.string y.2.1, .int .i64 y.2.2.1] 63 (0, 0)), (b2, .cells #[.int .i64 y.2.2.2.1, .slice none 0 0, .int .i64 y.2.2.2.2.1, .slice none 0 0] 31 (0, 0)), (b1, .cells #[.int .i64 y.2.2.2.2.2, .slice a0_1 x0_1.length k0_1] 28 (0, 0))]) [] (fun y => []) [_] (fun y => (ref20_Build_J7 (ref20_Build_L11 (ref20_Build_J6 x1 x0_1) x2 xs34521 (i34501 + 1)) v34504) y.1 y.2.1 y.2.2.1 y.2.2.2.1 y.2.2.2.2.1 y.2.2.2.2.2 = some r) ⟨rfl, rfl, rfl, rfl, rfl, rfl, rfl, rfl, rfl, trivial⟩ [] rfl [0] rfl ?_ ?_
         ·intro y hI
          obtain ⟨v34669, v34670, v34671, v34672, v34673, v34674⟩ := y
          have r34676 := hI; clear hI
          try dsimp only at r34676
          refine Cov.prune [(13, .int .i64 v34669), (8, _), (41, _), (1, _), (2, _), (3, _), (6, _), (39, _), (40, _), (10, _)] ⟨rfl, rfl, rfl, rfl, rfl, rfl, rfl, rfl, rfl, rfl, trivial⟩ ?_;refine Cov.same (bl' := [(b34525, .cells #[.string v34670, .int .i64 v34671] 63 (0, 0)), (b2, .cells #[.int .i64 v34672, .slice none 0 0, .int .i64 v34673, .slice none 0 0] 31 (0, 0)), (b1, .cells #[.int .i64 v34674, .slice a0_1 x0_1.length k0_1] 28 (0, 0))]) (sl' := [_]) (Fs' := G :: Fs) rfl rfl rfl ?_
          unfold ref20_Build_J7 at r34676
          try dsimp only at r34676
          refine Cov.seq ?_;refine Cov.region rfl ?_;refine Cov.q .ro (.move rfl) rfl ?_;refine Cov.q .ro (.build [_, _] [] ty63 pl63 rfl rfl) rfl ?_
          refine Cov.lit [_, _] [(0, _)] .ro sl32 ty63 rfl rfl rfl rfl rfl rfl (fun b34683 hb34683 => ?_)
          have o34684 : OL (Rep.pair Rep.str (Rep.int .i64)) G [.string ByteArray.empty, .int .i64 0] ([(ByteArray.empty, 0)] : List (ByteArray × Int)) := ((OL.cons rfl (Rep.pairI (Rep.strI ByteArray.empty) (Rep.intI .i64 0)) (OL.nil (Rp' := (Rep.pair Rep.str (Rep.int .i64))))) :)
          refine Cov.reval 84 (n' := ([(ByteArray.empty, 0)] : List (ByteArray × Int)).length) rfl rfl ?_
          obtain ⟨u34690, hu34690, r34691⟩ := bind_some r34676; clear r34676
          refine Cov.appO (Q := (Rep.pair Rep.str (Rep.int .i64))) 0 .ro sl32 ty63 rfl rfl rfl rfl rfl rfl o34508 o34684 rfl rfl rfl B0 hu34690 rfl (fun a34686 k34687 cs34688 o34689 => ?_)
          refine Cov.q .ro (.assign rfl) rfl ?_;refine Cov.region_end ?_;refine Cov.seq ?_;refine Cov.drawL (.q 0 (.q 1 (.q 2 (.q 3 (.q 4 (.q 5 (.q 6 (.e 7 2 .nil)))))))) [_, _, _] (by kernel_rfl) (by kernel_rfl) (pick_mem [0, 1, 2] rfl) ?_;refine Cov.dq (.move rfl) rfl ?_;refine Cov.dq (.move rfl) rfl ?_;refine Cov.dq (.addw rfl rfl) rfl ?_
          refine Cov.owncap 0 rfl (fun h34693 => ?_)
          obtain ⟨u34694, hu34694, r34695⟩ := bind_some r34691; clear r34691
          refine Cov.dq (.sliceP rfl (PartV.all h34693) hu34694 sl32 ty63.sz (fun h => .yes' rfl h) (fun _ => .no)) rfl ?_;refine Cov.dq (.move rfl) rfl ?_;refine Cov.dq (.move rfl) rfl ?_
          refine Cov.owncap 0 rfl (fun h34696 => ?_)
          obtain ⟨u34697, hu34697, r34698⟩ := bind_some r34695; clear r34695
          refine Cov.dq (.sliceP rfl (PartV.all h34696) hu34697 sl32 ty63.sz (fun h => .yes' rfl h) (fun _ => .no)) rfl ?_
          obtain ⟨u34699, hu34699, r34700⟩ := bind_some r34698; clear r34698
          obtain ⟨u34701, hu34701, r34702⟩ := bind_some r34700; clear r34700
          refine Cov.copyG 0 (Q := (Rep.pair Rep.str (Rep.int .i64))) .d2 sl32 ty63.sz rfl o34689 hu34699 rfl (PartV.psub (PartV.all h34693) hu34694) rfl (SrcV.osub 0 rfl o34689 (PartV.psub (PartV.all h34696) hu34697) hu34701) rfl (fun cs34703 hlcs34703 o34704 => ?_)
          refine Cov.reval 8 hlcs34703 rfl ?_;refine Cov.reval 85 hlcs34703 rfl ?_;refine Cov.reval 86 hlcs34703 rfl ?_;refine Cov.reval 90 hlcs34703 rfl ?_;refine Cov.draw_end ?_;refine Cov.region rfl ?_;refine Cov.q .ro (.move rfl) rfl ?_;refine Cov.q .ro (.move rfl) rfl ?_;refine Cov.q .ro (.load_own_a 0 [_, _] rfl rfl ty63 rfl) rfl ?_
          obtain ⟨u34706, hu34706, r34707⟩ := bind_some r34702; clear r34702
          obtain ⟨c34708, p34709, h34710⟩ := OL.get o34704 hu34706
          obtain ⟨_, _, rfl, rfl, rfl⟩ := h34710
          refine Cov.q .ro (.idxO 0 rfl rfl rfl hu34706 sl32 ty63.sz) rfl ?_
          obtain ⟨u34711, hu34711, r34712⟩ := bind_some r34707; clear r34707
          refine Cov.storeR 0 0 (Q := (Rep.pair Rep.str (Rep.int .i64))) .ro rfl rfl o34704 hu34711 rfl (.inl ⟨rfl, rfl⟩) rfl ty63 p34709 ((Rep.pairI (Rep.strI v34670) (Rep.intI .i64 v34671)) :) rfl rfl (fun cs34713 hlcs34713 o34714 => ?_)
          refine Cov.reval 8 hlcs34713 rfl ?_;refine Cov.reval 85 hlcs34713 rfl ?_;refine Cov.reval 86 hlcs34713 rfl ?_;refine Cov.reval 90 hlcs34713 rfl ?_;refine Cov.reval 94 hlcs34713 rfl ?_;refine Cov.region_end ?_;refine Cov.prune [(8, _), (41, _), (1, _), (2, _), (3, _), (6, _), (39, _), (40, _)] ⟨rfl, rfl, rfl, rfl, rfl, rfl, rfl, rfl, trivial⟩ ?_;refine Cov.inBlock ?_;refine Cov.region rfl ?_
          refine Cov.q .ro (.addw rfl rfl) rfl ?_;refine Cov.q .ro (.move rfl) rfl ?_;refine Cov.region_end ?_;refine Cov.drop 1 0 [_, _] _ rfl rfl ?_
          refine Cov.prune _ ?_ (Cov.same rfl rfl rfl (hb34514 ((i34501 + 1), xs34521, u34711, a34686, k34687, cs34713, v34672, v34673, v34674) ⟨o34714, (drop_succ g34503), r34712⟩ (Nat.lt_succ_self _)))
          exact ⟨rfl, (congrArg (fun z => some (Value.int .i64 z)) (idx_wrap (SlR.len s2) g34503)), rfl, rfl, rfl, rfl, rfl, rfl, trivial⟩
         ·intro hb34716
          refine Cov.block ?_
          refine Cov.loop2 (α := Nat × Int) (fun y => [(13, .int .i64 y.2)]) [(8, _), (41, _), (1, _), (2, _), (3, _), (6, _), (39, _), (40, _), (10, _)] (fun y => []) (fun y => []) [_, _, _] (fun y => []) [_] (fun y => ref20_Build_L8 (ref20_Build_J7 (ref20_Build_L11 (ref20_Build_J6 x1 x0_1) x2 xs34521 (i34501 + 1)) v34504) v34587 v34588 v34589 v34590 v34591 v34504 y.1 y.2 = some r) (fun y => y.1) (big, (v34504.length : Int)) r34593 ⟨rfl, rfl, rfl, rfl, rfl, rfl, rfl, rfl, rfl, rfl, trivial⟩ rfl rfl rfl (fun y hI hb34750 => ?_)
          obtain ⟨n34746, v34748⟩ := y
          have r34749 := hI; clear hI
          try dsimp only at r34749
          refine Cov.prune [(13, .int .i64 v34748), (8, _), (41, _), (1, _), (2, _), (3, _), (6, _), (39, _), (40, _), (10, _)] ⟨rfl, rfl, rfl, rfl, rfl, rfl, rfl, rfl, rfl, rfl, trivial⟩ ?_;refine Cov.same (bl' := [_, _, _]) (sl' := [_]) (Fs' := G :: Fs) rfl rfl rfl ?_
          obtain ⟨m34763, rfl⟩ : ∃ m, n34746 = m + 1 := by cases n34746 with | zero => exact absurd (show (none : Option _) = some _ from r34749) (by simp) | succ m => exact ⟨m, rfl⟩
          have r34762 : ref20_Build_B8 (ref20_Build_J7 (ref20_Build_L11 (ref20_Build_J6 x1 x0_1) x2 xs34521 (i34501 + 1)) v34504) v34587 v34588 v34589 v34590 v34591 v34504 (ref20_Build_L8 (ref20_Build_J7 (ref20_Build_L11 (ref20_Build_J6 x1 x0_1) x2 xs34521 (i34501 + 1)) v34504) v34587 v34588 v34589 v34590 v34591 v34504 m34763) v34748 = some r := r34749; clear r34749; unfold ref20_Build_B8 at r34762; try dsimp only at r34762
          refine Cov.seq ?_;refine Cov.seq ?_;refine Cov.drawL (.q 0 (.q 1 (.q 2 (.q 3 (.q 4 (.q 5 (.q 9 (.q 10 (.e 6 1 (.e 7 1 (.e 8 1 (.q 11 (.q 12 .nil))))))))))))) [_, _, _] (by kernel_rfl) (by kernel_rfl) (pick_mem [0, 1, 2] rfl) ?_;refine Cov.dq (.move rfl) rfl ?_;refine Cov.dq (.gtr rfl rfl) rfl ?_;refine Cov.dq (.move rfl) rfl ?_
          obtain ⟨u34771, h34772, r34773⟩ := bind_some r34762; clear r34762
          refine Cov.cutD 10 (β := Unit) (fun y => [(79, .bool u34771)]) [(13, _), (8, _), (41, _), (1, _), (2, _), (3, _), (6, _), (39, _), (40, _), (10, _)] (fun y => G :: Fs) (fun y => []) [_, _, _] (fun y => []) [_] (fun y => True) ⟨rfl, rfl, rfl, rfl, rfl, rfl, rfl, rfl, rfl, rfl, trivial⟩ [0, 1, 2] rfl [0] rfl ?_ ?_
          ·rintro _ _
           refine Cov.prune [(79, .bool u34771), (13, _), (8, _), (41, _), (1, _), (2, _), (3, _), (6, _), (39, _), (40, _), (10, _)] ⟨rfl, rfl, rfl, rfl, rfl, rfl, rfl, rfl, rfl, rfl, rfl, trivial⟩ ?_;refine Cov.same (bl' := [_, _, _]) (sl' := [_]) (Fs' := G :: Fs) rfl rfl rfl ?_;refine Cov.draw_end ?_
           refine Cov.cond rfl (fun c34776 => ?_) (fun c34776 => ?_)
           ·have r34777 := ifT r34773 c34776; clear r34773
            refine Cov.skip ?_;refine Cov.block ?_;refine Cov.region rfl ?_;refine Cov.q .ro (.move rfl) rfl ?_;refine Cov.q .ro (.subw rfl rfl) rfl ?_;refine Cov.q .ro (.assign rfl) rfl ?_;refine Cov.region_end ?_;refine Cov.inBlock ?_
            refine Cov.prune _ ?_ (Cov.same rfl rfl rfl (hb34750 (m34763, (w64 (v34748 - 1))) r34777 (Nat.lt_succ_self _)))
            exact ⟨rfl, rfl, rfl, rfl, rfl, rfl, rfl, rfl, rfl, rfl, trivial⟩
           ·have r34778 := ifBF r34773 c34776; clear r34773
            refine Cov.exit rfl ?_
            refine Cov.prune _ ?_ (Cov.same rfl rfl rfl (hb34716 (v34748, v34587, v34588, v34589, v34590, v34591) r34778))
            exact ⟨rfl, rfl, rfl, rfl, rfl, rfl, rfl, rfl, rfl, rfl, trivial⟩
          ·intro hb34770
           refine Cov.split 69 rfl (fun c34769 => ?_) (fun c34769 => ?_)
           ·have r34779 := ifT h34772 c34769
            refine Cov.dgq_on rfl ?_;refine Cov.dq (.move rfl) rfl ?_;refine Cov.dgq_on rfl ?_;refine Cov.dq (.move rfl) rfl ?_;refine Cov.dgq_on rfl ?_;refine Cov.dq (.subw rfl rfl) rfl ?_;refine Cov.dgq_on rfl ?_;refine Cov.dq (.fieldAddr 0 rfl fl63_0 ty9.sz rfl) rfl ?_;refine Cov.dgq_on rfl ?_
            refine Cov.dq (.load_own 0 rfl rfl ty9 rfl) rfl ?_;refine Cov.dge_on rfl ?_
            obtain ⟨u34780, hu34780, r34781⟩ := bind_some r34779; clear r34779
            obtain ⟨c34782, p34783, h34784⟩ := OL.get o34508 hu34780
            obtain ⟨_, _, rfl, rfl, rfl⟩ := h34784
            refine Cov.q .d1 (.idxO 0 rfl rfl rfl hu34780 sl32 ty63.sz) rfl ?_;refine Cov.clsL (HpLe.refl _) (pick_mem [0, 1, 2] rfl) ?_;refine Cov.dge_on rfl ?_;refine Cov.q .d1 (.fieldO 0 0 rfl hu34780 rfl (.inl ⟨rfl, rfl⟩) fl63_0 ty9.sz) rfl ?_;refine Cov.clsL (HpLe.refl _) (pick_mem [0, 1, 2] rfl) ?_;refine Cov.dge_on rfl ?_;refine Cov.q .d1 (.loadO 0 0 rfl hu34780 p34783 rfl (.inr rfl) ty9 rfl) rfl ?_;refine Cov.clsL (HpLe.refl _) (pick_mem [0, 1, 2] rfl) ?_;refine Cov.dgq_on rfl ?_
            refine Cov.dq (.gtr_d rfl rfl) rfl ?_;refine Cov.dq (.pick_t rfl rfl) rfl ?_
            refine Cov.prune _ ?_ (Cov.same rfl rfl rfl (hb34770 () trivial))
            exact ⟨sval r34781, rfl, rfl, rfl, rfl, rfl, rfl, rfl, rfl, rfl, rfl, trivial⟩
           ·have r34785 := ifF h34772 c34769
            refine Cov.dgq_off rfl rfl rfl ?_;refine Cov.dgq_off rfl rfl rfl ?_;refine Cov.dgq_off rfl rfl rfl ?_;refine Cov.dgq_off rfl rfl rfl ?_;refine Cov.dgq_off rfl rfl rfl ?_;refine Cov.dge_offL rfl rfl rfl (HpLe.refl _) (pick_mem [0, 1, 2] rfl) ?_;refine Cov.dge_offL rfl rfl rfl (HpLe.refl _) (pick_mem [0, 1, 2] rfl) ?_;refine Cov.dge_offL rfl rfl rfl (HpLe.refl _) (pick_mem [0, 1, 2] rfl) ?_;refine Cov.dgq_off rfl rfl rfl ?_
            refine Cov.dq (.pick_f rfl rfl) rfl ?_
            refine Cov.prune _ ?_ (Cov.same rfl rfl rfl (hb34770 () trivial))
            exact ⟨sval r34785, rfl, rfl, rfl, rfl, rfl, rfl, rfl, rfl, rfl, rfl, trivial⟩
        ·intro hb34786
         refine Cov.block ?_
         refine Cov.loop2 (α := Nat × (List (ByteArray × Int))) (fun y => [(54, .int .i64 (y.1 : Int))]) [(8, _), (41, _), (1, _), (2, _), (3, _), (6, _), (39, _), (40, _), (10, _), (52, _), (53, _)] (fun y => []) (fun y => []) [_, _, _] (fun y => []) [_] (fun y => List.drop y.1 u34533 = y.2 ∧ ref20_Build_L10 (ref20_Build_J9 (ref20_Build_L11 (ref20_Build_J6 x1 x0_1) x2 xs34521 (i34501 + 1)) v34504) x34520.1 x34520.2 v34510 v34511 v34512 y.2  = some r) (fun y => y.2.length) (0, u34533) ⟨rfl, r34534⟩ ⟨rfl, rfl, rfl, rfl, rfl, rfl, rfl, rfl, rfl, rfl, rfl, rfl, trivial⟩ rfl rfl rfl (fun y hI hb34811 => ?_)
         obtain ⟨i34807, w34808⟩ := y
         obtain ⟨g34809, r34810⟩ := hI
         try dsimp only at g34809 r34810
         refine Cov.prune [(54, .int .i64 (i34807 : Int)), (8, _), (41, _), (1, _), (2, _), (3, _), (6, _), (39, _), (40, _), (10, _), (52, _), (53, _)] ⟨rfl, rfl, rfl, rfl, rfl, rfl, rfl, rfl, rfl, rfl, rfl, rfl, trivial⟩ ?_;refine Cov.same (bl' := [_, _, _]) (sl' := [_]) (Fs' := G :: Fs) rfl rfl rfl ?_
         cases w34808 with
         | nil =>
          rw [ref20_Build_L10] at r34810; try dsimp only at r34810
          refine Cov.seq ?_;refine Cov.region rfl ?_;refine Cov.q .ro (.lss rfl rfl) rfl ?_;refine Cov.region_end ?_;refine Cov.seq ?_
          refine Cov.cond_dec rfl (fun c => absurd c (drop_nil g34809)) (fun _ => ?_)
          refine Cov.exit rfl ?_
          refine Cov.prune _ ?_ (Cov.same rfl rfl rfl (hb34786 (x34520.1, x34520.2, v34510, v34511, v34512) r34810))
          exact ⟨rfl, rfl, rfl, rfl, rfl, rfl, rfl, rfl, rfl, trivial⟩
         | cons x34826 xs34827 =>
          have r34825 : ref20_Build_B10 (ref20_Build_J9 (ref20_Build_L11 (ref20_Build_J6 x1 x0_1) x2 xs34521 (i34501 + 1)) v34504) x34520.1 x34520.2 v34510 v34511 v34512 (ref20_Build_L10 (ref20_Build_J9 (ref20_Build_L11 (ref20_Build_J6 x1 x0_1) x2 xs34521 (i34501 + 1)) v34504) x34520.1 x34520.2 v34510 v34511 v34512 xs34827) x34826  = some r := r34810; clear r34810; unfold ref20_Build_B10 at r34825; try dsimp only at r34825
          refine Cov.seq ?_;refine Cov.region rfl ?_;refine Cov.q .ro (.lss rfl rfl) rfl ?_;refine Cov.region_end ?_;refine Cov.seq ?_
          refine Cov.cond_dec rfl (fun _ => ?_) (fun c => absurd (drop_lt g34809) c)
          refine Cov.skip ?_;refine Cov.seq ?_;refine Cov.block ?_;refine Cov.seq ?_;refine Cov.region rfl ?_
          obtain ⟨c34828, p34829, h34830⟩ := SlR.get s34538 (drop_idx g34809)
          obtain ⟨_, _, rfl, rfl, rfl⟩ := h34830
          refine Cov.q .ro (.idxR s34538 rfl rfl (drop_idx g34809) sl32 ty63.sz) rfl ?_;refine Cov.q .ro (.load_rp_a [_, _] p34829 List.mem_cons_self rfl ty63 rfl) rfl ?_
          refine Cov.alloc .ro ty63 rfl (fun b34831 hb34831 => ?_)
          refine Cov.store 0 [_, _] [_, _, _, _] .ro rfl rfl rfl ty63 rfl rfl rfl rfl ?_;refine Cov.region_end ?_;refine Cov.seq ?_;refine Cov.region rfl ?_;refine Cov.q .ro (.fieldAddr 0 rfl fl63_0 ty9.sz rfl) rfl ?_;refine Cov.q .ro (.load_own 0 rfl rfl ty9 rfl) rfl ?_;refine Cov.q .ro (.fieldAddr 0 rfl fl63_0 ty9.sz rfl) rfl ?_;refine Cov.q .ro (.load_own 1 rfl rfl ty9 rfl) rfl ?_;refine Cov.q .ro (.eql_s rfl rfl) rfl ?_
          refine Cov.region_end ?_
          refine Cov.cond_dec rfl (fun c34832 => ?_) (fun c34832 => ?_)
          ·have r34833 := ifT r34825 c34832; clear r34825
           refine Cov.seq ?_;refine Cov.region rfl ?_;refine Cov.q .ro (.build [_, _, _, _] [] ty31 pl31 rfl rfl) rfl ?_;refine Cov.store 2 [_, _, _, _] [_, _, _, _] .ro rfl rfl rfl ty31 rfl rfl rfl rfl ?_;refine Cov.q .ro (.assign rfl) rfl ?_;refine Cov.region_end ?_;refine Cov.prune [(6, _), (7, _)] ⟨rfl, rfl, trivial⟩ ?_
           cases r34833
           refine Cov.drop 0 1 _ [] rfl rfl ?_
           refine Cov.retWD 4 (c := ⟨19, none⟩) (.inr ⟨_, rfl⟩) [.cell 6 31, .tmp 7] [_, _] rfl Try.func19 Try.results19 ⟨RV.cell_a 2 [_, _, _, _] rfl rfl ty31 rfl, RV.tmp rfl, trivial⟩ (fun _ h => List.mem_cons_of_mem _ h) List.mem_cons_self B0 (by subst hS0; simp [blks]) (fun G' hg => ⟨none, 0, none, 0, rfl, rfl, rfl, (SlR.mono hg (SlR.nil (Rp' := (Rep.pair (Rep.int .i64) (Rep.int .i64))))), (SlR.mono hg (SlR.nil (Rp' := (Rep.sl (Rep.pair Rep.str (Rep.int .i64))))))⟩)
          ·have r34834 := ifF r34825 c34832; clear r34825
           refine Cov.skip ?_;refine Cov.inBlock ?_;refine Cov.region rfl ?_;refine Cov.q .ro (.addw rfl rfl) rfl ?_;refine Cov.q .ro (.move rfl) rfl ?_;refine Cov.region_end ?_;refine Cov.drop 1 0 [_, _, _] _ rfl rfl ?_
           refine Cov.prune _ ?_ (Cov.same rfl rfl rfl (hb34811 ((i34807 + 1), xs34827) ⟨(drop_succ g34809), r34834⟩ (Nat.lt_succ_self _)))
           exact ⟨(congrArg (fun z => some (Value.int .i64 z)) (idx_wrap (SlR.len s34538) g34809)), rfl, rfl, rfl, rfl, rfl, rfl, rfl, rfl, rfl, rfl, rfl, trivial⟩
  ·intro hb11
   refine Cov.split 30 rfl (fun c10 => ?_) (fun c10 => ?_)
   ·refine Cov.g_off rfl rfl rfl ?_
    refine Cov.g_off rfl rfl rfl ?_;refine Cov.q .ro (.pick_t rfl rfl) rfl ?_
    refine Cov.prune _ ?_ (Cov.same rfl rfl rfl (hb11 () trivial))
    exact ⟨dor_t c10, rfl, rfl, rfl, rfl, trivial⟩
   ·refine Cov.g_on rfl ?_
    refine Cov.q .ro (.move rfl) rfl ?_;refine Cov.g_on rfl ?_;refine Cov.q .ro (.gtr rfl rfl) rfl ?_;refine Cov.q .ro (.pick_f rfl rfl) rfl ?_
    refine Cov.prune _ ?_ (Cov.same rfl rfl rfl (hb11 () trivial))
    exact ⟨dor_f c10, rfl, rfl, rfl, rfl, trivial⟩
set_option maxHeartbeats 4000000 in
set_option maxRecDepth 100000 in
theorem law35_sane_c {Fs : List Hp} {G : Hp}  {r : Bool} (hG : G ∈ Fs)  (h : law35_sane = some r) : RetS Try.prog 6 #[] Fs [] [] (fun v bo so => v = .bool r ∧ bo = [] ∧ so = []) := by
 unfold law35_sane at h
 try dsimp only at h
 refine RetS.of (vs := []) Try.func6 rfl Try.ntmps6 [] trivial rfl hG fun w0 S0 hS0 B0 => ?_
 refine Cov.seq ?_;refine Cov.region rfl ?_;refine Cov.q .ro (.assign rfl) rfl ?_;refine Cov.region_end ?_;refine Cov.seq ?_;refine Cov.region rfl ?_;refine Cov.q .ro (.build [_, _] [(0, _)] ty70 pl70 rfl rfl) rfl ?_;refine Cov.q .ro (.build [_, _] [(0, _)] ty70 pl70 rfl rfl) rfl ?_
 refine Cov.lit [_, _, _, _] [(0, _), (1, _)] .ro sl26 ty70 rfl rfl rfl rfl rfl rfl (fun b1 hb1 => ?_)
 have o2 : OL (Rep.pair (Rep.int .i64) (Rep.int .i64)) G [.int .i64 1, .int .i64 0, .int .i64 3, .int .i64 0] ([(1, 0), (3, 0)] : List (Int × Int)) := ((OL.cons rfl (Rep.pairI (Rep.intI .i64 1) (Rep.intI .i64 0)) (OL.cons rfl (Rep.pairI (Rep.intI .i64 3) (Rep.intI .i64 0)) (OL.nil (Rp' := (Rep.pair (Rep.int .i64) (Rep.int .i64)))))) :)
 refine Cov.reval 12 (n' := ([(1, 0), (3, 0)] : List (Int × Int)).length) rfl rfl ?_;refine Cov.q .ro (.build [_, _] [(0, _), (1, _)] ty28 pl28 rfl rfl) rfl ?_
 refine Cov.alloc .ro ty28 rfl (fun b4 hb4 => ?_)
 refine Cov.store 0 [_, _] [_] .ro rfl rfl rfl ty28 rfl rfl rfl rfl ?_;refine Cov.region_end ?_;refine Cov.seq ?_;refine Cov.region rfl ?_;refine Cov.q .ro (.load_own_a 0 [_, _] rfl rfl ty28 rfl) rfl ?_;refine Cov.q .ro (.build [_, _] [(0, _), (1, _)] ty63 pl63 rfl rfl) rfl ?_
 refine Cov.lit [_, _] [(0, _)] .ro sl32 ty63 rfl rfl rfl rfl rfl rfl (fun b5 hb5 => ?_)
 have o6 : OL (Rep.pair Rep.str (Rep.int .i64)) G [.string ⟨#[97, 110, 116]⟩, .int .i64 7] ([(⟨#[97, 110, 116]⟩, 7)] : List (ByteArray × Int)) := ((OL.cons rfl (Rep.pairI (Rep.strI ⟨#[97, 110, 116]⟩) (Rep.intI .i64 7)) (OL.nil (Rp' := (Rep.pair Rep.str (Rep.int .i64))))) :)
 refine Cov.reval 17 (n' := ([(⟨#[97, 110, 116]⟩, 7)] : List (ByteArray × Int)).length) rfl rfl ?_
 refine Cov.freezeR 1 rfl rfl o2 [_] rfl B0 (fun G8 e9 B10 s11 => ?_)
 refine Cov.freezeR 0 rfl rfl (OL.mono e9 o6) [] rfl B10 (fun G13 e14 B15 s16 => ?_)
 obtain ⟨u18, hu18, r19⟩ := bind_some h; clear h
 refine Cov.callW (b1 := []) (b2 := [_]) (s1 := []) [_, _, _] [] .ro rfl rfl Try.call19 rfl rfl (ref20_Build_c (G := G13) List.mem_cons_self (SlR.mono e14 s11) s16 hu18) rfl B15 (fun v21 bo so G22 e23 B24 h20 => ?_)
 obtain ⟨a26, k27, a29, k30, rfl, rfl, rfl, s28, s31⟩ := h20
 refine Cov.same (bl' := [_]) (sl' := []) rfl rfl rfl ?_;refine Cov.q .ro (.move rfl) rfl ?_;refine Cov.q .ro (.extract rfl rfl) rfl ?_;refine Cov.q .ro (.extract rfl rfl) rfl ?_
 refine Cov.alloc .ro ty31 rfl (fun b32 hb32 => ?_)
 refine Cov.store 0 [_, _, _, _] [_, _] .ro rfl rfl rfl ty31 rfl rfl rfl rfl ?_;refine Cov.q .ro (.assign rfl) rfl ?_;refine Cov.region_end ?_;refine Cov.prune [(1, _), (2, _)] ⟨rfl, rfl, trivial⟩ ?_;refine Cov.seq ?_;refine Cov.region rfl ?_;refine Cov.q .ro (.build [_] [(0, _)] ty54 pl54 rfl rfl) rfl ?_;refine Cov.q .ro (.load_own_a 0 [_, _, _, _] rfl rfl ty31 rfl) rfl ?_
 obtain ⟨u33, hu33, r34⟩ := bind_some r19; clear r19
 refine Cov.callW (b1 := []) (b2 := [_, _]) (s1 := []) [_, _, _] [] .ro rfl rfl Try.call15 rfl rfl (lookup_Table_c (G := G22) List.mem_cons_self s28 s31 hu33) rfl B24 (fun v36 bo so G37 e38 B39 h35 => ?_)
 obtain ⟨a41, k42, rfl, rfl, rfl, s43⟩ := h35
 refine Cov.same (bl' := [_, _]) (sl' := []) rfl rfl rfl ?_;refine Cov.q .ro (.move rfl) rfl ?_;refine Cov.q .ro (.extract rfl rfl) rfl ?_;refine Cov.q .ro (.extract rfl rfl) rfl ?_
 refine Cov.alloc .ro ty57 rfl (fun b44 hb44 => ?_)
 refine Cov.store 0 [_, _, _, _] [_, _, _] .ro rfl rfl rfl ty57 rfl rfl rfl rfl ?_;refine Cov.q .ro (.assign rfl) rfl ?_;refine Cov.region_end ?_;refine Cov.seq ?_;refine Cov.region rfl ?_;refine Cov.q .ro (.load_own_a 2 [_, _] rfl rfl ty28 rfl) rfl ?_
 obtain ⟨u45, hu45, r46⟩ := bind_some r34; clear r34
 refine Cov.callS (b1 := []) (b2 := [_, _, _]) (s1 := []) [_, _] [] .ro rfl rfl Try.call10 rfl rfl (lookup_Wish_c (G := G37) List.mem_cons_self (SlR.mono (HpLe.trans (HpLe.trans e14 e23) e38) s11) hu45) rfl (fun v48 bo so h47 => ?_)
 obtain ⟨a50, k51, cs52, rfl, rfl, rfl, o53⟩ := h47
 refine Cov.same (bl' := [_, _, _]) (sl' := [_]) rfl rfl rfl ?_;refine Cov.q .ro (.move rfl) rfl ?_;refine Cov.q .ro (.extract rfl rfl) rfl ?_;refine Cov.q .ro (.extract rfl rfl) rfl ?_;refine Cov.q .ro (.assign rfl) rfl ?_;refine Cov.q .ro (.assign rfl) rfl ?_;refine Cov.region_end ?_;refine Cov.prune [(4, _), (5, _), (6, _), (7, _)] ⟨rfl, rfl, rfl, rfl, trivial⟩ ?_;refine Cov.seq ?_
 refine Cov.region rfl ?_
 refine Cov.lit [_, _, _, _] [(0, _), (1, _), (2, _), (3, _)] .ro sl35 ty9 rfl rfl rfl rfl rfl rfl (fun b54 hb54 => ?_)
 have o55 : OL Rep.str G37 [.string ⟨#[97]⟩, .string ⟨#[98]⟩, .string ⟨#[99]⟩, .string ⟨#[100]⟩] ([⟨#[97]⟩, ⟨#[98]⟩, ⟨#[99]⟩, ⟨#[100]⟩] : List ByteArray) := ((OL.cons rfl (Rep.strI ⟨#[97]⟩) (OL.cons rfl (Rep.strI ⟨#[98]⟩) (OL.cons rfl (Rep.strI ⟨#[99]⟩) (OL.cons rfl (Rep.strI ⟨#[100]⟩) (OL.nil (Rp' := Rep.str)))))) :)
 refine Cov.reval 33 (n' := ([⟨#[97]⟩, ⟨#[98]⟩, ⟨#[99]⟩, ⟨#[100]⟩] : List ByteArray).length) rfl rfl ?_;refine Cov.q .ro (.build [_, _] [(0, _), (1, _)] ty37 pl37 rfl rfl) rfl ?_
 refine Cov.freezeR 0 rfl rfl o55 [_] rfl B39 (fun G57 e58 B59 s60 => ?_)
 obtain ⟨u62, hu62, r63⟩ := bind_some r46; clear r46
 refine Cov.callS (b1 := []) (b2 := [_, _, _]) (s1 := []) [_] [] .ro rfl rfl Try.call13 rfl rfl (lookup_Rows_c (G := G57) List.mem_cons_self s60 hu62) rfl (fun v65 bo so h64 => ?_)
 obtain ⟨a67, k68, cs69, rfl, rfl, rfl, o70⟩ := h64
 refine Cov.same (bl' := [_, _, _]) (sl' := [_, _]) rfl rfl rfl ?_;refine Cov.q .ro (.move rfl) rfl ?_;refine Cov.q .ro (.extract rfl rfl) rfl ?_;refine Cov.q .ro (.extract rfl rfl) rfl ?_;refine Cov.q .ro (.assign rfl) rfl ?_;refine Cov.q .ro (.assign rfl) rfl ?_;refine Cov.region_end ?_;refine Cov.seq ?_;refine Cov.region rfl ?_
 obtain ⟨u71, hu71, r72⟩ := bind_some r63; clear r63
 refine Cov.callS (b1 := []) (b2 := [_, _, _]) (s1 := []) [_] [] .ro rfl rfl Try.call16 rfl rfl (lookup_Width_c (G := G57) List.mem_cons_self  hu71) rfl (fun v74 bo so h73 => ?_)
 obtain ⟨rfl, rfl, rfl⟩ := h73
 refine Cov.same (bl' := [_, _, _]) (sl' := [_, _]) rfl rfl rfl ?_;refine Cov.q .ro (.eql rfl rfl) rfl ?_;refine Cov.q .ro (.move rfl) rfl ?_;refine Cov.cutR 3 (β := Unit) (fun y => [(43, .bool (decide ((u71 = 37) ∧ (u33.2 = 0))))]) [(4, _), (6, _), (7, _), (8, _), (9, _)] (fun y => G57 :: Fs) (fun y => []) [_, _, _] (fun y => []) [_, _] (fun y => True) ⟨rfl, rfl, rfl, rfl, rfl, trivial⟩ [0, 1, 2] rfl [0, 1] rfl ?_ ?_
 ·rintro _ _
  refine Cov.prune [(43, .bool (decide ((u71 = 37) ∧ (u33.2 = 0)))), (4, _), (6, _), (7, _), (8, _), (9, _)] ⟨rfl, rfl, rfl, rfl, rfl, rfl, trivial⟩ ?_;refine Cov.same (bl' := [_, _, _]) (sl' := [_, _]) (Fs' := G57 :: Fs) rfl rfl rfl ?_;refine Cov.q .ro (.move rfl) rfl ?_;refine Cov.cutR 5 (β := Unit) (fun y => [(49, .bool (decide (((u71 = 37) ∧ (u33.2 = 0)) ∧ ((u33.1.2.2.2.length : Int) = 4))))]) [(4, _), (6, _), (7, _), (8, _), (9, _)] (fun y => G57 :: Fs) (fun y => []) [_, _, _] (fun y => []) [_, _] (fun y => True) ⟨rfl, rfl, rfl, rfl, rfl, trivial⟩ [0, 1, 2] rfl [0, 1] rfl ?_ ?_
  ·rintro _ _
   refine Cov.prune [(49, .bool (decide (((u71 = 37) ∧ (u33.2 = 0)) ∧ ((u33.1.2.2.2.length : Int) = 4)))), (4, _), (6, _), (7, _), (8, _), (9, _)] ⟨rfl, rfl, rfl, rfl, rfl, rfl, trivial⟩ ?_;refine Cov.same (bl' := [_, _, _]) (sl' := [_, _]) (Fs' := G57 :: Fs) rfl rfl rfl ?_;refine Cov.q .ro (.move rfl) rfl ?_;refine Cov.cutR 4 (β := Unit) (fun y => [(54, .bool (decide ((((u71 = 37) ∧ (u33.2 = 0)) ∧ ((u33.1.2.2.2.length : Int) = 4)) ∧ (u33.1.2.2.1 = 37))))]) [(6, _), (7, _), (8, _), (9, _)] (fun y => G57 :: Fs) (fun y => []) [_, _, _] (fun y => []) [_, _] (fun y => True) ⟨rfl, rfl, rfl, rfl, trivial⟩ [0, 1, 2] rfl [0, 1] rfl ?_ ?_
   ·rintro _ _
    refine Cov.prune [(54, .bool (decide ((((u71 = 37) ∧ (u33.2 = 0)) ∧ ((u33.1.2.2.2.length : Int) = 4)) ∧ (u33.1.2.2.1 = 37)))), (6, _), (7, _), (8, _), (9, _)] ⟨rfl, rfl, rfl, rfl, rfl, trivial⟩ ?_;refine Cov.same (bl' := [_, _, _]) (sl' := [_, _]) (Fs' := G57 :: Fs) rfl rfl rfl ?_;refine Cov.q .ro (.move rfl) rfl ?_;refine Cov.cutR 3 (β := Unit) (fun y => [(58, .bool (decide (((((u71 = 37) ∧ (u33.2 = 0)) ∧ ((u33.1.2.2.2.length : Int) = 4)) ∧ (u33.1.2.2.1 = 37)) ∧ (u45.2 = 0))))]) [(6, _), (8, _), (9, _)] (fun y => G57 :: Fs) (fun y => []) [_, _, _] (fun y => []) [_, _] (fun y => True) ⟨rfl, rfl, rfl, trivial⟩ [0, 1, 2] rfl [0, 1] rfl ?_ ?_
    ·rintro _ _
     refine Cov.prune [(58, .bool (decide (((((u71 = 37) ∧ (u33.2 = 0)) ∧ ((u33.1.2.2.2.length : Int) = 4)) ∧ (u33.1.2.2.1 = 37)) ∧ (u45.2 = 0)))), (6, _), (8, _), (9, _)] ⟨rfl, rfl, rfl, rfl, trivial⟩ ?_;refine Cov.same (bl' := [_, _, _]) (sl' := [_, _]) (Fs' := G57 :: Fs) rfl rfl rfl ?_;refine Cov.q .ro (.move rfl) rfl ?_;refine Cov.cutR 4 (β := Unit) (fun y => [(63, .bool (decide ((((((u71 = 37) ∧ (u33.2 = 0)) ∧ ((u33.1.2.2.2.length : Int) = 4)) ∧ (u33.1.2.2.1 = 37)) ∧ (u45.2 = 0)) ∧ ((u45.1.length : Int) = 2))))]) [(8, _), (9, _)] (fun y => G57 :: Fs) (fun y => []) [_, _, _] (fun y => []) [_, _] (fun y => True) ⟨rfl, rfl, trivial⟩ [0, 1, 2] rfl [0, 1] rfl ?_ ?_
     ·rintro _ _
      refine Cov.prune [(63, .bool (decide ((((((u71 = 37) ∧ (u33.2 = 0)) ∧ ((u33.1.2.2.2.length : Int) = 4)) ∧ (u33.1.2.2.1 = 37)) ∧ (u45.2 = 0)) ∧ ((u45.1.length : Int) = 2)))), (8, _), (9, _)] ⟨rfl, rfl, rfl, trivial⟩ ?_;refine Cov.same (bl' := [_, _, _]) (sl' := [_, _]) (Fs' := G57 :: Fs) rfl rfl rfl ?_;refine Cov.q .ro (.move rfl) rfl ?_;refine Cov.cutR 3 (β := Unit) (fun y => [(67, .bool (decide (((((((u71 = 37) ∧ (u33.2 = 0)) ∧ ((u33.1.2.2.2.length : Int) = 4)) ∧ (u33.1.2.2.1 = 37)) ∧ (u45.2 = 0)) ∧ ((u45.1.length : Int) = 2)) ∧ (u62.2 = 0))))]) [(8, _)] (fun y => G57 :: Fs) (fun y => []) [_, _, _] (fun y => []) [_, _] (fun y => True) ⟨rfl, trivial⟩ [0, 1, 2] rfl [0, 1] rfl ?_ ?_
      ·rintro _ _
       refine Cov.prune [(67, .bool (decide (((((((u71 = 37) ∧ (u33.2 = 0)) ∧ ((u33.1.2.2.2.length : Int) = 4)) ∧ (u33.1.2.2.1 = 37)) ∧ (u45.2 = 0)) ∧ ((u45.1.length : Int) = 2)) ∧ (u62.2 = 0)))), (8, _)] ⟨rfl, rfl, trivial⟩ ?_;refine Cov.same (bl' := [_, _, _]) (sl' := [_, _]) (Fs' := G57 :: Fs) rfl rfl rfl ?_;refine Cov.q .ro (.move rfl) rfl ?_;refine Cov.cutR 4 (β := Unit) (fun y => [(72, .bool (decide ((((((((u71 = 37) ∧ (u33.2 = 0)) ∧ ((u33.1.2.2.2.length : Int) = 4)) ∧ (u33.1.2.2.1 = 37)) ∧ (u45.2 = 0)) ∧ ((u45.1.length : Int) = 2)) ∧ (u62.2 = 0)) ∧ ((u62.1.length : Int) = 2))))]) [(8, _)] (fun y => G57 :: Fs) (fun y => []) [_, _, _] (fun y => []) [_, _] (fun y => True) ⟨rfl, trivial⟩ [0, 1, 2] rfl [0, 1] rfl ?_ ?_
       ·rintro _ _
        refine Cov.prune [(72, .bool (decide ((((((((u71 = 37) ∧ (u33.2 = 0)) ∧ ((u33.1.2.2.2.length : Int) = 4)) ∧ (u33.1.2.2.1 = 37)) ∧ (u45.2 = 0)) ∧ ((u45.1.length : Int) = 2)) ∧ (u62.2 = 0)) ∧ ((u62.1.length : Int) = 2)))), (8, _)] ⟨rfl, rfl, trivial⟩ ?_;refine Cov.same (bl' := [_, _, _]) (sl' := [_, _]) (Fs' := G57 :: Fs) rfl rfl rfl ?_;refine Cov.q .ro (.move rfl) rfl ?_
        obtain ⟨u110, h111, r112⟩ := bind_some r72; clear r72
        refine Cov.cutR 5 (β := Unit) (fun y => [(78, .bool u110)]) [] (fun y => G57 :: Fs) (fun y => []) [_, _, _] (fun y => []) [_, _] (fun y => True) trivial [0, 1, 2] rfl [0, 1] rfl ?_ ?_
        ·rintro _ _
         refine Cov.prune [(78, .bool u110)] ⟨rfl, trivial⟩ ?_;refine Cov.same (bl' := [_, _, _]) (sl' := [_, _]) (Fs' := G57 :: Fs) rfl rfl rfl ?_;refine Cov.q .ro (.assign rfl) rfl ?_;refine Cov.region_end ?_
         cases r112
         refine Cov.drop 3 0 [] _ rfl rfl ?_;refine Cov.drop 0 2 _ [] rfl rfl ?_
         refine Cov.retS (c := ⟨6, none⟩) (.inr ⟨_, rfl⟩) [.tmp 0] [_] rfl Try.func6 Try.results6 ⟨RV.tmp rfl, trivial⟩ (fun _ h => List.mem_cons_of_mem _ h) ⟨rfl, rfl, rfl⟩
        ·intro hb109
         refine Cov.split 73 rfl (fun c108 => ?_) (fun c108 => ?_)
         ·have r115 := ifT h111 c108
          refine Cov.g_on rfl ?_;refine Cov.q .ro (.move rfl) rfl ?_;refine Cov.g_on rfl ?_
          obtain ⟨u116, hu116, r117⟩ := bind_some r115; clear r115
          obtain ⟨c118, p119, h120⟩ := OL.get o70 hu116
          obtain rfl := h120
          refine Cov.q .ro (.idxO 0 rfl rfl rfl hu116 sl39 ty3.sz) rfl ?_;refine Cov.g_on rfl ?_;refine Cov.q .ro (.loadO 0 0 rfl hu116 p119 rfl (.inl ⟨rfl, rfl⟩) ty3 rfl) rfl ?_;refine Cov.g_on rfl ?_;refine Cov.q .ro (.eql rfl rfl) rfl ?_;refine Cov.q .ro (.pick_t rfl rfl) rfl ?_
          refine Cov.prune _ ?_ (Cov.same rfl rfl rfl (hb109 () trivial))
          exact ⟨sval r117, trivial⟩
         ·have r121 := ifF h111 c108
          refine Cov.g_off rfl rfl rfl ?_;refine Cov.g_off rfl rfl rfl ?_;refine Cov.g_off rfl rfl rfl ?_;refine Cov.g_off rfl rfl rfl ?_;refine Cov.q .ro (.pick_f rfl rfl) rfl ?_
          refine Cov.prune _ ?_ (Cov.same rfl rfl rfl (hb109 () trivial))
          exact ⟨sval r121, trivial⟩
       ·intro hb100
        refine Cov.split 68 rfl (fun c99 => ?_) (fun c99 => ?_)
        ·refine Cov.g_on rfl ?_
         refine Cov.q .ro (.move rfl) rfl ?_;refine Cov.g_on rfl ?_;refine Cov.q .ro (.len_sl rfl rfl sl39) rfl ?_;refine Cov.g_on rfl ?_;refine Cov.q .ro (.eql rfl rfl) rfl ?_;refine Cov.q .ro (.pick_t rfl rfl) rfl ?_
         refine Cov.prune _ ?_ (Cov.same rfl rfl rfl (hb100 () trivial))
         exact ⟨dand_t c99, rfl, trivial⟩
        ·refine Cov.g_off rfl rfl rfl ?_
         refine Cov.g_off rfl rfl rfl ?_;refine Cov.g_off rfl rfl rfl ?_;refine Cov.q .ro (.pick_f rfl rfl) rfl ?_
         refine Cov.prune _ ?_ (Cov.same rfl rfl rfl (hb100 () trivial))
         exact ⟨dand_f c99, rfl, trivial⟩
      ·intro hb96
       refine Cov.split 64 rfl (fun c95 => ?_) (fun c95 => ?_)
       ·refine Cov.g_on rfl ?_
        refine Cov.q .ro (.move rfl) rfl ?_;refine Cov.g_on rfl ?_;refine Cov.q .ro (.eql rfl rfl) rfl ?_;refine Cov.q .ro (.pick_t rfl rfl) rfl ?_
        refine Cov.prune _ ?_ (Cov.same rfl rfl rfl (hb96 () trivial))
        exact ⟨dand_t c95, rfl, trivial⟩
       ·refine Cov.g_off rfl rfl rfl ?_
        refine Cov.g_off rfl rfl rfl ?_;refine Cov.q .ro (.pick_f rfl rfl) rfl ?_
        refine Cov.prune _ ?_ (Cov.same rfl rfl rfl (hb96 () trivial))
        exact ⟨dand_f c95, rfl, trivial⟩
     ·intro hb92
      refine Cov.split 59 rfl (fun c91 => ?_) (fun c91 => ?_)
      ·refine Cov.g_on rfl ?_
       refine Cov.q .ro (.move rfl) rfl ?_;refine Cov.g_on rfl ?_;refine Cov.q .ro (.len_sl rfl rfl sl39) rfl ?_;refine Cov.g_on rfl ?_;refine Cov.q .ro (.eql rfl rfl) rfl ?_;refine Cov.q .ro (.pick_t rfl rfl) rfl ?_
       refine Cov.prune _ ?_ (Cov.same rfl rfl rfl (hb92 () trivial))
       exact ⟨dand_t c91, rfl, rfl, trivial⟩
      ·refine Cov.g_off rfl rfl rfl ?_
       refine Cov.g_off rfl rfl rfl ?_;refine Cov.g_off rfl rfl rfl ?_;refine Cov.q .ro (.pick_f rfl rfl) rfl ?_
       refine Cov.prune _ ?_ (Cov.same rfl rfl rfl (hb92 () trivial))
       exact ⟨dand_f c91, rfl, rfl, trivial⟩
    ·intro hb88
     refine Cov.split 55 rfl (fun c87 => ?_) (fun c87 => ?_)
     ·refine Cov.g_on rfl ?_
      refine Cov.q .ro (.move rfl) rfl ?_;refine Cov.g_on rfl ?_;refine Cov.q .ro (.eql rfl rfl) rfl ?_;refine Cov.q .ro (.pick_t rfl rfl) rfl ?_
      refine Cov.prune _ ?_ (Cov.same rfl rfl rfl (hb88 () trivial))
      exact ⟨dand_t c87, rfl, rfl, rfl, trivial⟩
     ·refine Cov.g_off rfl rfl rfl ?_
      refine Cov.g_off rfl rfl rfl ?_;refine Cov.q .ro (.pick_f rfl rfl) rfl ?_
      refine Cov.prune _ ?_ (Cov.same rfl rfl rfl (hb88 () trivial))
      exact ⟨dand_f c87, rfl, rfl, rfl, trivial⟩
   ·intro hb84
    refine Cov.split 50 rfl (fun c83 => ?_) (fun c83 => ?_)
    ·refine Cov.g_on rfl ?_
     refine Cov.q .ro (.fieldAddr 2 rfl fl57_2 ty3.sz rfl) rfl ?_;refine Cov.g_on rfl ?_;refine Cov.q .ro (.load_own 0 rfl rfl ty3 rfl) rfl ?_;refine Cov.g_on rfl ?_;refine Cov.q .ro (.eql rfl rfl) rfl ?_;refine Cov.q .ro (.pick_t rfl rfl) rfl ?_
     refine Cov.prune _ ?_ (Cov.same rfl rfl rfl (hb84 () trivial))
     exact ⟨dand_t c83, rfl, rfl, rfl, rfl, trivial⟩
    ·refine Cov.g_off rfl rfl rfl ?_
     refine Cov.g_off rfl rfl rfl ?_;refine Cov.g_off rfl rfl rfl ?_;refine Cov.q .ro (.pick_f rfl rfl) rfl ?_
     refine Cov.prune _ ?_ (Cov.same rfl rfl rfl (hb84 () trivial))
     exact ⟨dand_f c83, rfl, rfl, rfl, rfl, trivial⟩
  ·intro hb80
   refine Cov.split 44 rfl (fun c79 => ?_) (fun c79 => ?_)
   ·refine Cov.g_on rfl ?_
    refine Cov.q .ro (.fieldAddr 3 rfl fl57_3 ty55.sz rfl) rfl ?_;refine Cov.g_on rfl ?_;refine Cov.q .ro (.load_own 0 rfl rfl ty55 rfl) rfl ?_;refine Cov.g_on rfl ?_;refine Cov.q .ro (.len_sl rfl rfl sl55) rfl ?_;refine Cov.g_on rfl ?_;refine Cov.q .ro (.eql rfl rfl) rfl ?_;refine Cov.q .ro (.pick_t rfl rfl) rfl ?_
    refine Cov.prune _ ?_ (Cov.same rfl rfl rfl (hb80 () trivial))
    exact ⟨dand_t c79, rfl, rfl, rfl, rfl, rfl, trivial⟩
   ·refine Cov.g_off rfl rfl rfl ?_
    refine Cov.g_off rfl rfl rfl ?_;refine Cov.g_off rfl rfl rfl ?_;refine Cov.g_off rfl rfl rfl ?_;refine Cov.q .ro (.pick_f rfl rfl) rfl ?_
    refine Cov.prune _ ?_ (Cov.same rfl rfl rfl (hb80 () trivial))
    exact ⟨dand_f c79, rfl, rfl, rfl, rfl, rfl, trivial⟩
 ·intro hb76
  refine Cov.split 40 rfl (fun c75 => ?_) (fun c75 => ?_)
  ·refine Cov.g_on rfl ?_
   refine Cov.q .ro (.move rfl) rfl ?_;refine Cov.g_on rfl ?_;refine Cov.q .ro (.eql rfl rfl) rfl ?_;refine Cov.q .ro (.pick_t rfl rfl) rfl ?_
   refine Cov.prune _ ?_ (Cov.same rfl rfl rfl (hb76 () trivial))
   exact ⟨dand_t c75, rfl, rfl, rfl, rfl, rfl, trivial⟩
  ·refine Cov.g_off rfl rfl rfl ?_
   refine Cov.g_off rfl rfl rfl ?_;refine Cov.q .ro (.pick_f rfl rfl) rfl ?_
   refine Cov.prune _ ?_ (Cov.same rfl rfl rfl (hb76 () trivial))
   exact ⟨dand_f c75, rfl, rfl, rfl, rfl, rfl, trivial⟩
set_option maxHeartbeats 4000000 in
set_option maxRecDepth 100000 in
theorem play_New_c {Fs : List Hp} {G : Hp} {a0 : Option Addr} {k0 : Nat} {x0 : List Int} {r : ((List Int) × Int)} (hG : G ∈ Fs) (s0 : SlR (Rep.int .u8) G a0 k0 x0) (h : play_New x0 = some r) : RetS Try.prog 7 #[.slice a0 x0.length k0] Fs [] [] (fun v bo so => ∃ a0 : Option Addr, ∃ k0 : Nat, ∃ b0 : Nat, v = .pointer (some ⟨b0, 0, none⟩) ∧ bo = [(b0, .cells #[.slice a0 r.1.length k0, .int .i64 r.2] 74 (0, 0))] ∧ so = [] ∧ SlR (Rep.int .u8) G a0 k0 r.1) := by
 unfold play_New at h
 try dsimp only at h
 refine RetS.of (vs := [_]) Try.func7 rfl Try.ntmps7 [(0, _)] ⟨rfl, trivial⟩ rfl hG fun w0 S0 hS0 B0 => ?_
 refine Cov.seq ?_;refine Cov.region rfl ?_;refine Cov.q .ro (.assign rfl) rfl ?_;refine Cov.region_end ?_;refine Cov.seq ?_;refine Cov.seq ?_;refine Cov.region rfl ?_;refine Cov.q .ro (.move rfl) rfl ?_;refine Cov.q .ro (.len_sl rfl rfl sl22) rfl ?_
 refine Cov.q .ro (.gtr rfl rfl) rfl ?_;refine Cov.region_end ?_;refine Cov.cutI (β := List Int × Option Addr × Nat) (fun y => [(0, .slice y.2.1 y.1.length y.2.2)]) [] (fun y => G :: Fs) (fun y => []) [] (fun y => []) [] (fun y => SlR (Rep.int .u8) G y.2.1 y.2.2 y.1 ∧ play_New_J1 y.1 = some r) trivial [] rfl [] rfl ?_ ?_
 ·intro y hI
  obtain ⟨v11, a12, k13⟩ := y
  obtain ⟨s14, r16⟩ := hI
  try dsimp only at s14 r16
  refine Cov.prune [(0, .slice a12 v11.length k13)] ⟨rfl, trivial⟩ ?_;refine Cov.same (bl' := []) (sl' := []) (Fs' := G :: Fs) rfl rfl rfl ?_
  unfold play_New_J1 at r16
  try dsimp only at r16
  refine Cov.seq ?_;refine Cov.region rfl ?_;refine Cov.q .ro (.move rfl) rfl ?_;refine Cov.q .ro (.build [_, _] [(0, _)] ty74 pl74 rfl rfl) rfl ?_
  refine Cov.box [_, _] .ro rfl rfl rfl (fun b17 hb17 => ?_)
  refine Cov.q .ro (.assign rfl) rfl ?_;refine Cov.region_end ?_
  cases r16
  refine Cov.retS (c := ⟨7, none⟩) (.inr ⟨_, rfl⟩) [.tmp 2] [_] rfl Try.func7 Try.results7 ⟨RV.tmp rfl, trivial⟩ (fun _ h => List.mem_cons_of_mem _ h) ⟨a12, k13, _, rfl, rfl, rfl, s14⟩
 ·intro hb18
  refine Cov.cond_dec rfl (fun c19 => ?_) (fun c19 => ?_)
  ·have r20 := ifT h c19; clear h
   refine Cov.region rfl ?_;refine Cov.q .ro (.move rfl) rfl ?_
   obtain ⟨u21, hu21, r22⟩ := bind_some r20; clear r20
   obtain ⟨a23, k24, h25, s26⟩ := SlR.sub s0 hu21
   refine Cov.q .ro (.sliceR s0 rfl hu21 sl22 ty5.sz (fun _ => .no) (fun h => .yes' rfl h) h25) rfl ?_;refine Cov.q .ro (.assign rfl) rfl ?_;refine Cov.region_end ?_
   refine Cov.prune _ ?_ (Cov.same rfl rfl rfl (hb18 (u21, a23, k24) ⟨s26, r22⟩))
   exact ⟨rfl, trivial⟩
  ·have r27 := ifF h c19; clear h
   refine Cov.skip ?_
   refine Cov.prune _ ?_ (Cov.same rfl rfl rfl (hb18 (x0, a0, k0) ⟨s0, r27⟩))
   exact ⟨rfl, trivial⟩
set_option maxHeartbeats 4000000 in
set_option maxRecDepth 100000 in
theorem play_Dice_Pick_c {Fs : List Hp} {G : Hp} {p0 : Nat} {a0_0 : Option Addr} {k0_0 : Nat} {x0_0 : List Int} {x0_1 : Int} {x1 : Int} {r : (Int × ((List Int) × Int))} (hG : G ∈ Fs) (s0_0 : SlR (Rep.int .u8) G a0_0 k0_0 x0_0) (h : play_Dice_Pick (x0_0, x0_1) x1 = some r) : RetS Try.prog 20 #[.pointer (some ⟨p0, 0, none⟩), .int .i64 x1] Fs [(p0, .cells #[.slice a0_0 x0_0.length k0_0, .int .i64 x0_1] 74 (0, 0))] [] (fun v bo so => ∃ a0 : Option Addr, ∃ k0 : Nat, v = .int .i64 r.1 ∧ bo = [(p0, .cells #[.slice a0 r.2.1.length k0, .int .i64 r.2.2] 74 (0, 0))] ∧ so = [] ∧ SlR (Rep.int .u8) G a0 k0 r.2.1) := by
 unfold play_Dice_Pick at h
 try dsimp only at h
 refine RetS.of (vs := [_, _]) Try.func20 rfl Try.ntmps20 [(0, _), (1, _)] ⟨rfl, rfl, trivial⟩ rfl hG fun w0 S0 hS0 B0 => ?_
 refine Cov.seq ?_;refine Cov.region rfl ?_;refine Cov.q .ro (.assign rfl) rfl ?_;refine Cov.region_end ?_;refine Cov.seq ?_;refine Cov.seq ?_;refine Cov.drawL (.q 0 (.q 1 (.q 2 (.q 3 (.q 4 (.q 5 (.q 6 (.q 7 (.q 8 (.q 9 .nil)))))))))) [_] (by kernel_rfl) (by kernel_rfl) (pick_mem [0] rfl) ?_;refine Cov.dq (.move rfl) rfl ?_;refine Cov.dq (.nilCheck rfl rfl) rfl ?_
 refine Cov.dq (.fieldAddr 1 rfl fl74_1 ty3.sz rfl) rfl ?_;refine Cov.dq (.load_own 0 rfl rfl ty3 rfl) rfl ?_;refine Cov.dq (.move rfl) rfl ?_;refine Cov.dq (.nilCheck rfl rfl) rfl ?_;refine Cov.dq (.fieldAddr 0 rfl fl74_0 ty22.sz rfl) rfl ?_;refine Cov.dq (.load_own 0 rfl rfl ty22 rfl) rfl ?_;refine Cov.dq (.len_sl rfl rfl sl22) rfl ?_;refine Cov.dq (.geq rfl rfl) rfl ?_;refine Cov.draw_end ?_
 refine Cov.cond_dec rfl (fun c1 => ?_) (fun c1 => ?_)
 ·have r2 := ifT h c1; clear h
  refine Cov.seq ?_;refine Cov.region rfl ?_;refine Cov.q .ro (.assign rfl) rfl ?_;refine Cov.region_end ?_
  cases r2
  refine Cov.retS (c := ⟨20, none⟩) (.inr ⟨_, rfl⟩) [.tmp 4] [_] rfl Try.func20 Try.results20 ⟨RV.tmp rfl, trivial⟩ (fun _ h => List.mem_cons_of_mem _ h) ⟨a0_0, k0_0, rfl, rfl, rfl, s0_0⟩
 ·have r3 := ifF h c1; clear h
  refine Cov.skip ?_;refine Cov.seq ?_;refine Cov.region rfl ?_;refine Cov.q .ro (.move rfl) rfl ?_;refine Cov.q .ro (.nilCheck rfl rfl) rfl ?_;refine Cov.q .ro (.fieldAddr 1 rfl fl74_1 ty3.sz rfl) rfl ?_;refine Cov.q .ro (.load_own 0 rfl rfl ty3 rfl) rfl ?_;refine Cov.q .ro (.addw rfl rfl) rfl ?_;refine Cov.q .ro (.nilCheck rfl rfl) rfl ?_
  refine Cov.q .ro (.fieldAddr 1 rfl fl74_1 ty3.sz rfl) rfl ?_;refine Cov.store 0 [_, _] [_] .ro rfl rfl rfl ty3 rfl rfl rfl rfl ?_;refine Cov.region_end ?_;refine Cov.prune [(0, _), (1, _)] ⟨rfl, rfl, trivial⟩ ?_;refine Cov.seq ?_;refine Cov.drawL (.q 0 (.q 1 (.q 2 (.q 3 (.q 4 (.q 5 (.q 6 (.q 7 (.q 8 (.q 9 (.q 10 (.q 11 (.q 12 (.q 13 (.q 14 .nil))))))))))))))) [_] (by kernel_rfl) (by kernel_rfl) (pick_mem [0] rfl) ?_;refine Cov.dq (.move rfl) rfl ?_;refine Cov.dq (.nilCheck rfl rfl) rfl ?_;refine Cov.dq (.fieldAddr 0 rfl fl74_0 ty22.sz rfl) rfl ?_
  refine Cov.dq (.load_own 0 rfl rfl ty22 rfl) rfl ?_;refine Cov.dq (.move rfl) rfl ?_;refine Cov.dq (.nilCheck rfl rfl) rfl ?_;refine Cov.dq (.fieldAddr 1 rfl fl74_1 ty3.sz rfl) rfl ?_;refine Cov.dq (.load_own 0 rfl rfl ty3 rfl) rfl ?_;refine Cov.dq (.subw rfl rfl) rfl ?_
  obtain ⟨u4, hu4, r5⟩ := bind_some r3; clear r3
  obtain ⟨c6, p7, h8⟩ := SlR.get s0_0 hu4
  obtain rfl := h8
  refine Cov.dq (.idxR s0_0 rfl rfl hu4 sl22 ty5.sz) rfl ?_;refine Cov.dq (.load_rp p7 List.mem_cons_self rfl ty5 rfl) rfl ?_;refine Cov.dq (.convw Try.underlying5 Try.underlying3 rfl) rfl ?_;refine Cov.dq (.move rfl) rfl ?_
  obtain ⟨u9, hu9, r10⟩ := bind_some r5; clear r5
  refine Cov.dq (.remt rfl rfl (nz_some hu9)) rfl ?_;refine Cov.dq (.assign rfl) rfl ?_;refine Cov.draw_end ?_;refine Cov.prune [(4, _)] ⟨rfl, trivial⟩ ?_
  cases r10
  refine Cov.retS (c := ⟨20, none⟩) (.inr ⟨_, rfl⟩) [.tmp 4] [_] rfl Try.func20 Try.results20 ⟨RV.tmp rfl, trivial⟩ (fun _ h => List.mem_cons_of_mem _ h) ⟨a0_0, k0_0, rfl, rfl, rfl, s0_0⟩
set_option maxHeartbeats 4000000 in
set_option maxRecDepth 100000 in
theorem law35_directory_c {Fs : List Hp} {G : Hp} {p0 : Nat} {a0_0 : Option Addr} {k0_0 : Nat} {x0_0 : List Int} {x0_1 : Int} {r : (((Int × (List (Int × Int))) × Int × (List (List (ByteArray × Int)))) × (List (ByteArray × Int)) × ((List Int) × Int))} (hG : G ∈ Fs) (s0_0 : SlR (Rep.int .u8) G a0_0 k0_0 x0_0) (h : law35_directory (x0_0, x0_1) = some r) : RetW Try.prog 8 #[.pointer (some ⟨p0, 0, none⟩)] Fs [(p0, .cells #[.slice a0_0 x0_0.length k0_0, .int .i64 x0_1] 74 (0, 0))] [] (fun v bo so G => ∃ a0 : Option Addr, ∃ k0 : Nat, ∃ a1 : Option Addr, ∃ k1 : Nat, ∃ a2 : Option Addr, ∃ k2 : Nat, ∃ a3 : Option Addr, ∃ k3 : Nat, v = .tuple #[.agg #[.int .i64 r.1.1.1, .slice a0 r.1.1.2.length k0, .int .i64 r.1.2.1, .slice a1 r.1.2.2.length k1], .slice a2 r.2.1.length k2] ∧ bo = [(p0, .cells #[.slice a3 r.2.2.1.length k3, .int .i64 r.2.2.2] 74 (0, 0))] ∧ so = [] ∧ SlR (Rep.pair (Rep.int .i64) (Rep.int .i64)) G a0 k0 r.1.1.2 ∧ SlR (Rep.sl (Rep.pair Rep.str (Rep.int .i64))) G a1 k1 r.1.2.2 ∧ SlR (Rep.pair Rep.str (Rep.int .i64)) G a2 k2 r.2.1 ∧ SlR (Rep.int .u8) G a3 k3 r.2.2.1) := by
 unfold law35_directory at h
 try dsimp only at h
 refine RetW.of (vs := [_]) Try.func8 rfl Try.ntmps8 [(0, _)] ⟨rfl, trivial⟩ rfl hG fun w0 S0 hS0 B0 => ?_
 refine Cov.seq ?_;refine Cov.region rfl ?_
 refine Cov.alloc .ro ty31 rfl (fun b1 hb1 => ?_)
 refine Cov.q .ro (.assign rfl) rfl ?_;refine Cov.region_end ?_;refine Cov.seq ?_;refine Cov.region rfl ?_
 refine Cov.lit [_, _, _, _, _, _] [(0, _), (1, _), (2, _), (3, _), (4, _), (5, _)] .ro sl35 ty9 rfl rfl rfl rfl rfl rfl (fun b2 hb2 => ?_)
 have o3 : OL Rep.str G [.string ⟨#[97, 110, 116]⟩, .string ⟨#[98, 101, 101]⟩, .string ⟨#[99, 97, 116]⟩, .string ⟨#[100, 111, 103]⟩, .string ⟨#[101, 101, 108]⟩, .string ⟨#[102, 111, 120]⟩] ([⟨#[97, 110, 116]⟩, ⟨#[98, 101, 101]⟩, ⟨#[99, 97, 116]⟩, ⟨#[100, 111, 103]⟩, ⟨#[101, 101, 108]⟩, ⟨#[102, 111, 120]⟩] : List ByteArray) := ((OL.cons rfl (Rep.strI ⟨#[97, 110, 116]⟩) (OL.cons rfl (Rep.strI ⟨#[98, 101, 101]⟩) (OL.cons rfl (Rep.strI ⟨#[99, 97, 116]⟩) (OL.cons rfl (Rep.strI ⟨#[100, 111, 103]⟩) (OL.cons rfl (Rep.strI ⟨#[101, 101, 108]⟩) (OL.cons rfl (Rep.strI ⟨#[102, 111, 120]⟩) (OL.nil (Rp' := Rep.str)))))))) :)
 refine Cov.reval 11 (n' := ([⟨#[97, 110, 116]⟩, ⟨#[98, 101, 101]⟩, ⟨#[99, 97, 116]⟩, ⟨#[100, 111, 103]⟩, ⟨#[101, 101, 108]⟩, ⟨#[102, 111, 120]⟩] : List ByteArray).length) rfl rfl ?_;refine Cov.q .ro (.assign rfl) rfl ?_;refine Cov.region_end ?_;refine Cov.seq ?_;refine Cov.region rfl ?_;refine Cov.q .ro (.assign rfl) rfl ?_;refine Cov.region_end ?_;refine Cov.seq ?_;refine Cov.seq ?_
 refine Cov.region rfl ?_;refine Cov.q .ro (.move rfl) rfl ?_;refine Cov.q .ro (.len_sl rfl rfl sl35) rfl ?_;refine Cov.q .ro (.move rfl) rfl ?_;refine Cov.region_end ?_;refine Cov.cutB (β := (List (ByteArray × Int)) × Option Addr × Nat × List Value × Int × Int × List Int × Option Addr × Nat × Int) (fun y => [(5, .slice y.2.1 y.1.length y.2.2.1)]) [(0, _), (2, _)] (fun y => G :: Fs) (fun y => [(b1, .cells #[.int .i64 y.2.2.2.2.1, .slice none 0 0, .int .i64 y.2.2.2.2.2.1, .slice none 0 0] 31 (0, 0)), (p0, .cells #[.slice y.2.2.2.2.2.2.2.1 y.2.2.2.2.2.2.1.length y.2.2.2.2.2.2.2.2.1, .int .i64 y.2.2.2.2.2.2.2.2.2] 74 (0, 0))]) [] (fun y => [.s (.slice y.2.1 y.1.length y.2.2.1) 63 2 y.1.length y.2.2.2.1]) [_] (fun y => OL (Rep.pair Rep.str (Rep.int .i64)) G y.2.2.2.1 y.1 ∧ SlR (Rep.int .u8) G y.2.2.2.2.2.2.2.1 y.2.2.2.2.2.2.2.2.1 y.2.2.2.2.2.2.1 ∧ law35_directory_J2 y.1 y.2.2.2.2.1 y.2.2.2.2.2.1 y.2.2.2.2.2.2.1 y.2.2.2.2.2.2.2.2.2 = some r) ⟨rfl, rfl, trivial⟩ [] rfl [0] rfl ?_ ?_
 ·intro y hI
  obtain ⟨v153, a154, k155, cs156, v159, v160, v161, a162, k163, v165⟩ := y
  obtain ⟨o157, s164, r167⟩ := hI
  try dsimp only at o157 s164 r167
  refine Cov.prune [(5, .slice a154 v153.length k155), (0, _), (2, _)] ⟨rfl, rfl, rfl, trivial⟩ ?_;refine Cov.same (bl' := [(b1, .cells #[.int .i64 v159, .slice none 0 0, .int .i64 v160, .slice none 0 0] 31 (0, 0)), (p0, .cells #[.slice a162 v161.length k163, .int .i64 v165] 74 (0, 0))]) (sl' := [.s (.slice a154 v153.length k155) 63 2 v153.length cs156, _]) (Fs' := G :: Fs) rfl rfl rfl ?_
  unfold law35_directory_J2 at r167
  try dsimp only at r167
  refine Cov.seq ?_;refine Cov.region rfl ?_;refine Cov.q .ro (.move rfl) rfl ?_
  obtain ⟨u169, hu169, r170⟩ := bind_some r167; clear r167
  refine Cov.pull 1 rfl [_, _] rfl ?_
  refine Cov.callS (b1 := [_]) (b2 := [_]) (s1 := []) [_, _] [] .ro rfl rfl Try.call20 rfl rfl (play_Dice_Pick_c (G := G) List.mem_cons_self s164 hu169) rfl (fun v172 bo so h171 => ?_)
  obtain ⟨a173, k174, rfl, rfl, rfl, s175⟩ := h171
  refine Cov.same (bl' := [_, _]) (sl' := [_, _]) rfl rfl rfl ?_;refine Cov.q .ro (.addw rfl rfl) rfl ?_;refine Cov.q .ro (.move rfl) rfl ?_
  obtain ⟨u176, hu176, r177⟩ := bind_some r170; clear r170
  refine Cov.callS (b1 := [_]) (b2 := [_]) (s1 := []) [_, _] [] .ro rfl rfl Try.call20 rfl rfl (play_Dice_Pick_c (G := G) List.mem_cons_self s175 hu176) rfl (fun v179 bo so h178 => ?_)
  obtain ⟨a180, k181, rfl, rfl, rfl, s182⟩ := h178
  refine Cov.same (bl' := [_, _]) (sl' := [_, _]) rfl rfl rfl ?_;refine Cov.q .ro (.addw rfl rfl) rfl ?_;refine Cov.q .ro (.move rfl) rfl ?_
  obtain ⟨u183, hu183, r184⟩ := bind_some r177; clear r177
  refine Cov.callS (b1 := [_]) (b2 := [_]) (s1 := []) [_, _] [] .ro rfl rfl Try.call20 rfl rfl (play_Dice_Pick_c (G := G) List.mem_cons_self s182 hu183) rfl (fun v186 bo so h185 => ?_)
  obtain ⟨a187, k188, rfl, rfl, rfl, s189⟩ := h185
  refine Cov.same (bl' := [_, _]) (sl' := [_, _]) rfl rfl rfl ?_;refine Cov.q .ro (.build [_, _] [(0, _), (1, _)] ty70 pl70 rfl rfl) rfl ?_;refine Cov.q .ro (.move rfl) rfl ?_
  obtain ⟨u190, hu190, r191⟩ := bind_some r184; clear r184
  refine Cov.callS (b1 := [_]) (b2 := [_]) (s1 := []) [_, _] [] .ro rfl rfl Try.call20 rfl rfl (play_Dice_Pick_c (G := G) List.mem_cons_self s189 hu190) rfl (fun v193 bo so h192 => ?_)
  obtain ⟨a194, k195, rfl, rfl, rfl, s196⟩ := h192
  refine Cov.same (bl' := [_, _]) (sl' := [_, _]) rfl rfl rfl ?_;refine Cov.q .ro (.addw rfl rfl) rfl ?_;refine Cov.q .ro (.move rfl) rfl ?_
  obtain ⟨u197, hu197, r198⟩ := bind_some r191; clear r191
  refine Cov.callS (b1 := [_]) (b2 := [_]) (s1 := []) [_, _] [] .ro rfl rfl Try.call20 rfl rfl (play_Dice_Pick_c (G := G) List.mem_cons_self s196 hu197) rfl (fun v200 bo so h199 => ?_)
  obtain ⟨a201, k202, rfl, rfl, rfl, s203⟩ := h199
  refine Cov.same (bl' := [_, _]) (sl' := [_, _]) rfl rfl rfl ?_;refine Cov.q .ro (.build [_, _] [(0, _), (1, _)] ty70 pl70 rfl rfl) rfl ?_;refine Cov.q .ro (.move rfl) rfl ?_
  obtain ⟨u204, hu204, r205⟩ := bind_some r198; clear r198
  refine Cov.callS (b1 := [_]) (b2 := [_]) (s1 := []) [_, _] [] .ro rfl rfl Try.call20 rfl rfl (play_Dice_Pick_c (G := G) List.mem_cons_self s203 hu204) rfl (fun v207 bo so h206 => ?_)
  obtain ⟨a208, k209, rfl, rfl, rfl, s210⟩ := h206
  refine Cov.same (bl' := [_, _]) (sl' := [_, _]) rfl rfl rfl ?_;refine Cov.q .ro (.build [_, _] [(0, _), (1, _)] ty70 pl70 rfl rfl) rfl ?_
  refine Cov.lit [_, _, _, _, _, _] [(0, _), (1, _), (2, _)] .ro sl26 ty70 rfl rfl rfl rfl rfl rfl (fun b211 hb211 => ?_)
  have o212 : OL (Rep.pair (Rep.int .i64) (Rep.int .i64)) G [.int .i64 (w64 (1 + u176.1)), .int .i64 u183.1, .int .i64 (w64 (11 + u190.1)), .int .i64 u197.1, .int .i64 31, .int .i64 u204.1] ([((w64 (1 + u176.1)), u183.1), ((w64 (11 + u190.1)), u197.1), (31, u204.1)] : List (Int × Int)) := ((OL.cons rfl (Rep.pairI (Rep.intI .i64 (w64 (1 + u176.1))) (Rep.intI .i64 u183.1)) (OL.cons rfl (Rep.pairI (Rep.intI .i64 (w64 (11 + u190.1))) (Rep.intI .i64 u197.1)) (OL.cons rfl (Rep.pairI (Rep.intI .i64 31) (Rep.intI .i64 u204.1)) (OL.nil (Rp' := (Rep.pair (Rep.int .i64) (Rep.int .i64))))))) :)
  refine Cov.reval 56 (n' := ([((w64 (1 + u176.1)), u183.1), ((w64 (11 + u190.1)), u197.1), (31, u204.1)] : List (Int × Int)).length) rfl rfl ?_;refine Cov.q .ro (.build [_, _] [(0, _), (1, _)] ty28 pl28 rfl rfl) rfl ?_
  refine Cov.alloc .ro ty28 rfl (fun b214 hb214 => ?_)
  refine Cov.store 0 [_, _] [_, _, _] .ro rfl rfl rfl ty28 rfl rfl rfl rfl ?_;refine Cov.region_end ?_;refine Cov.prune [(5, _), (2, _), (8, _)] ⟨rfl, rfl, rfl, trivial⟩ ?_;refine Cov.seq ?_;refine Cov.region rfl ?_;refine Cov.q .ro (.load_own_a 0 [_, _] rfl rfl ty28 rfl) rfl ?_;refine Cov.q .ro (.move rfl) rfl ?_
  refine Cov.freezeR 0 rfl rfl o212 [_, _] rfl B0 (fun G215 e216 B217 s218 => ?_)
  refine Cov.freezeR 0 rfl rfl (OL.mono e216 o157) [_] rfl B217 (fun G220 e221 B222 s223 => ?_)
  obtain ⟨u225, hu225, r226⟩ := bind_some r205; clear r205
  refine Cov.callW (b1 := []) (b2 := [_, _, _]) (s1 := []) [_, _, _] [] .ro rfl rfl Try.call19 rfl rfl (ref20_Build_c (G := G220) List.mem_cons_self (SlR.mono e221 s218) s223 hu225) rfl B222 (fun v228 bo so G229 e230 B231 h227 => ?_)
  obtain ⟨a233, k234, a236, k237, rfl, rfl, rfl, s235, s238⟩ := h227
  refine Cov.same (bl' := [_, _, _]) (sl' := [_]) rfl rfl rfl ?_;refine Cov.q .ro (.move rfl) rfl ?_;refine Cov.q .ro (.extract rfl rfl) rfl ?_;refine Cov.q .ro (.extract rfl rfl) rfl ?_
  refine Cov.alloc .ro ty31 rfl (fun b239 hb239 => ?_)
  refine Cov.store 0 [_, _, _, _] [_, _, _, _] .ro rfl rfl rfl ty31 rfl rfl rfl rfl ?_;refine Cov.q .ro (.assign rfl) rfl ?_;refine Cov.region_end ?_;refine Cov.seq ?_;refine Cov.seq ?_;refine Cov.region rfl ?_;refine Cov.q .ro (.move rfl) rfl ?_;refine Cov.q .ro (.neq rfl rfl) rfl ?_;refine Cov.region_end ?_
  refine Cov.cutI (β := Hp × (List (ByteArray × Int)) × Option Addr × Nat × Int × (List (Int × Int)) × Option Addr × Nat × Int × (List (List (ByteArray × Int))) × Option Addr × Nat) (fun y => [(5, .slice y.2.2.1 y.2.1.length y.2.2.2.1)]) [(2, _), (9, _)] (fun y => y.1 :: Fs) (fun y => [(b239, .cells #[.int .i64 y.2.2.2.2.1, .slice y.2.2.2.2.2.2.1 y.2.2.2.2.2.1.length y.2.2.2.2.2.2.2.1, .int .i64 y.2.2.2.2.2.2.2.2.1, .slice y.2.2.2.2.2.2.2.2.2.2.1 y.2.2.2.2.2.2.2.2.2.1.length y.2.2.2.2.2.2.2.2.2.2.2] 31 (0, 0))]) [_, _, _] (fun y => []) [_] (fun y => HpLe G229 y.1 ∧ Bd w0 S0 Fs y.1 ∧ SlR (Rep.pair Rep.str (Rep.int .i64)) y.1 y.2.2.1 y.2.2.2.1 y.2.1 ∧ SlR (Rep.pair (Rep.int .i64) (Rep.int .i64)) y.1 y.2.2.2.2.2.2.1 y.2.2.2.2.2.2.2.1 y.2.2.2.2.2.1 ∧ SlR (Rep.sl (Rep.pair Rep.str (Rep.int .i64))) y.1 y.2.2.2.2.2.2.2.2.2.2.1 y.2.2.2.2.2.2.2.2.2.2.2 y.2.2.2.2.2.2.2.2.2.1 ∧ (law35_directory_J1 u204.2.1 u204.2.2) y.2.1 y.2.2.2.2.1 y.2.2.2.2.2.1 y.2.2.2.2.2.2.2.2.1 y.2.2.2.2.2.2.2.2.2.1 = some r) ⟨rfl, rfl, trivial⟩ [1, 2, 3] rfl [0] rfl ?_ ?_
  ·intro y hI
   obtain ⟨G259, v263, a264, k265, v267, v268, a269, k270, v272, v273, a274, k275⟩ := y
   obtain ⟨e260, B261, s266, s271, s276, r278⟩ := hI
   try dsimp only at e260 B261 s266 s271 s276 r278
   refine Cov.prune [(5, .slice a264 v263.length k265), (2, _), (9, _)] ⟨rfl, rfl, rfl, trivial⟩ ?_;refine Cov.same (bl' := [(b239, .cells #[.int .i64 v267, .slice a269 v268.length k270, .int .i64 v272, .slice a274 v273.length k275] 31 (0, 0)), _, _, _]) (sl' := [_]) (Fs' := G259 :: Fs) rfl rfl rfl ?_
   unfold law35_directory_J1 at r278
   try dsimp only at r278
   refine Cov.seq ?_;refine Cov.region rfl ?_;refine Cov.q .ro (.load_own_a 0 [_, _, _, _] rfl rfl ty31 rfl) rfl ?_;refine Cov.q .ro (.move rfl) rfl ?_;refine Cov.store 3 [_, _, _, _] [_, _, _, _] .ro rfl rfl rfl ty31 rfl rfl rfl rfl ?_;refine Cov.q .ro (.assign rfl) rfl ?_;refine Cov.region_end ?_
   cases r278
   refine Cov.drop 0 1 _ [] rfl rfl ?_;refine Cov.pull 2 rfl [_, _, _, _] rfl ?_;refine Cov.pull 3 rfl [_, _, _, _] rfl ?_;refine Cov.pull 3 rfl [_, _, _, _] rfl ?_;refine Cov.pull 3 rfl [_, _, _, _] rfl ?_
   refine Cov.retWD 3 (c := ⟨8, none⟩) (.inr ⟨_, rfl⟩) [.cell 2 31, .tmp 3] [_, _] rfl Try.func8 Try.results8 ⟨RV.cell_a 2 [_, _, _, _] rfl rfl ty31 rfl, RV.tmp rfl, trivial⟩ (fun _ h => List.mem_cons_of_mem _ h) List.mem_cons_self B261 (by subst hS0; simp [blks]) (fun G' hg => ⟨a269, k270, a274, k275, a264, k265, a208, k209, rfl, rfl, rfl, (SlR.mono hg s271), (SlR.mono hg s276), (SlR.mono hg s266), (SlR.mono hg (SlR.mono (HpLe.trans (HpLe.trans (HpLe.trans e216 e221) e230) e260) s210))⟩)
  ·intro hb286
   refine Cov.cond_dec rfl (fun c287 => ?_) (fun c287 => ?_)
   ·have r288 := ifT r226 c287; clear r226
    refine Cov.seq ?_;refine Cov.region rfl ?_;refine Cov.q .ro (.load_own_a 1 [_, _] rfl rfl ty28 rfl) rfl ?_
    obtain ⟨u289, hu289, r290⟩ := bind_some r288; clear r288
    have hl291 := ref20_Build_c (G := G229) (Fs := G229 :: Fs) List.mem_cons_self (SlR.mono (HpLe.trans e221 e230) s218) (SlR.nil (Rp' := (Rep.pair Rep.str (Rep.int .i64)))) hu289
    refine Cov.callW (b1 := []) (b2 := [_, _, _, _]) (s1 := []) [_, _, _] [] .ro rfl rfl Try.call19 rfl rfl hl291 rfl B231 (fun v293 bo so G294 e295 B296 h292 => ?_)
    obtain ⟨a298, k299, a301, k302, rfl, rfl, rfl, s300, s303⟩ := h292
    refine Cov.same (bl' := [_, _, _, _]) (sl' := [_]) rfl rfl rfl ?_;refine Cov.q .ro (.move rfl) rfl ?_;refine Cov.q .ro (.extract rfl rfl) rfl ?_;refine Cov.q .ro (.extract rfl rfl) rfl ?_;refine Cov.store 0 [_, _, _, _] [_, _, _, _] .ro rfl rfl rfl ty31 rfl rfl rfl rfl ?_;refine Cov.region_end ?_;refine Cov.prune [(2, _), (9, _)] ⟨rfl, rfl, trivial⟩ ?_;refine Cov.region rfl ?_;refine Cov.q .ro (.assign rfl) rfl ?_
    refine Cov.region_end ?_
    refine Cov.prune _ ?_ (Cov.same rfl rfl rfl (hb286 (G294, ([] : List (ByteArray × Int)), none, 0, u289.1.1.1, u289.1.1.2, a298, k299, u289.1.2.1, u289.1.2.2, a301, k302) ⟨e295, B296, SlR.nil, s300, s303, r290⟩))
    exact ⟨rfl, rfl, rfl, trivial⟩
   ·have r304 := ifF r226 c287; clear r226
    refine Cov.skip ?_
    refine Cov.prune _ ?_ (Cov.same rfl rfl rfl (hb286 (G229, v153, a154, k155, u225.1.1.1, u225.1.1.2, a233, k234, u225.1.2.1, u225.1.2.2, a236, k237) ⟨(HpLe.refl _), B231, (SlR.mono e230 s223), s235, s238, r304⟩))
    exact ⟨rfl, rfl, rfl, trivial⟩
 ·intro hb305
  refine Cov.block ?_;refine Cov.own_nil 63 2 ?_;refine Cov.pull 1 rfl [_, _] rfl ?_
  refine Cov.loop2 (α := Nat × List ByteArray × (List (ByteArray × Int)) × Option Addr × Nat × List Value × List Int × Option Addr × Nat × Int) (fun y => [(5, .slice y.2.2.2.1 y.2.2.1.length y.2.2.2.2.1), (14, .int .i64 (y.1 : Int))]) [(0, _), (2, _), (12, _), (13, _)] (fun y => []) (fun y => [(p0, .cells #[.slice y.2.2.2.2.2.2.2.1 y.2.2.2.2.2.2.1.length y.2.2.2.2.2.2.2.2.1, .int .i64 y.2.2.2.2.2.2.2.2.2] 74 (0, 0))]) [_] (fun y => [.s (.slice y.2.2.2.1 y.2.2.1.length y.2.2.2.2.1) 63 2 y.2.2.1.length y.2.2.2.2.2.1]) [_] (fun y => OL (Rep.pair Rep.str (Rep.int .i64)) G y.2.2.2.2.2.1 y.2.2.1 ∧ SlR (Rep.int .u8) G y.2.2.2.2.2.2.2.1 y.2.2.2.2.2.2.2.2.1 y.2.2.2.2.2.2.1 ∧ List.drop y.1 ([⟨#[97, 110, 116]⟩, ⟨#[98, 101, 101]⟩, ⟨#[99, 97, 116]⟩, ⟨#[100, 111, 103]⟩, ⟨#[101, 101, 108]⟩, ⟨#[102, 111, 120]⟩] : List ByteArray) = y.2.1 ∧ law35_directory_L3 law35_directory_J2 y.2.1 y.1 y.2.2.1 y.2.2.2.2.2.2.1 y.2.2.2.2.2.2.2.2.2 = some r) (fun y => y.2.1.length) (0, ([⟨#[97, 110, 116]⟩, ⟨#[98, 101, 101]⟩, ⟨#[99, 97, 116]⟩, ⟨#[100, 111, 103]⟩, ⟨#[101, 101, 108]⟩, ⟨#[102, 111, 120]⟩] : List ByteArray), ([] : List (ByteArray × Int)), none, 0, [], x0_0, a0_0, k0_0, x0_1) ⟨(OL.nil (Rp' := (Rep.pair Rep.str (Rep.int .i64)))), s0_0, rfl, h⟩ ⟨rfl, rfl, rfl, rfl, rfl, rfl, trivial⟩ rfl rfl rfl (fun y hI hb415 => ?_)
  obtain ⟨i400, w401, v403, a404, k405, cs406, v409, a410, k411, v413⟩ := y
  obtain ⟨o407, s412, g402, r414⟩ := hI
  try dsimp only at o407 s412 g402 r414
  refine Cov.prune [(5, .slice a404 v403.length k405), (14, .int .i64 (i400 : Int)), (0, _), (2, _), (12, _), (13, _)] ⟨rfl, rfl, rfl, rfl, rfl, rfl, trivial⟩ ?_;refine Cov.same (bl' := [(p0, .cells #[.slice a410 v409.length k411, .int .i64 v413] 74 (0, 0)), _]) (sl' := [.s (.slice a404 v403.length k405) 63 2 v403.length cs406, _]) (Fs' := G :: Fs) rfl rfl rfl ?_
  cases w401 with
  | nil =>
   rw [law35_directory_L3] at r414; try dsimp only at r414
   refine Cov.seq ?_;refine Cov.region rfl ?_;refine Cov.q .ro (.lss rfl rfl) rfl ?_;refine Cov.region_end ?_;refine Cov.seq ?_
   refine Cov.cond_dec rfl (fun c => absurd c (drop_nil g402)) (fun _ => ?_)
   refine Cov.exit rfl ?_;refine Cov.pull 1 rfl [_, _] rfl ?_
   refine Cov.prune _ ?_ (Cov.same rfl rfl rfl (hb305 (v403, a404, k405, cs406, 0, 0, v409, a410, k411, v413) ⟨o407, s412, r414⟩))
   exact ⟨rfl, rfl, rfl, trivial⟩
  | cons x419 xs420 =>
   have r418 : law35_directory_B3 law35_directory_J2 (law35_directory_L3 law35_directory_J2 xs420 (i400 + 1)) x419 i400 v403 v409 v413 = some r := r414; clear r414; unfold law35_directory_B3 at r418; try dsimp only at r418
   refine Cov.seq ?_;refine Cov.region rfl ?_;refine Cov.q .ro (.lss rfl rfl) rfl ?_;refine Cov.region_end ?_;refine Cov.seq ?_
   refine Cov.cond_dec rfl (fun _ => ?_) (fun c => absurd (drop_lt g402) c)
   refine Cov.skip ?_;refine Cov.seq ?_;refine Cov.block ?_;refine Cov.seq ?_;refine Cov.region rfl ?_;refine Cov.q .ro (.move rfl) rfl ?_
   obtain ⟨c421, p422, h423⟩ := OL.get o3 (drop_idx g402)
   obtain rfl := h423
   refine Cov.q .ro (.idxO 1 rfl rfl rfl (drop_idx g402) sl35 ty9.sz) rfl ?_;refine Cov.q .ro (.loadO 1 0 rfl (drop_idx g402) p422 rfl (.inl ⟨rfl, rfl⟩) ty9 rfl) rfl ?_;refine Cov.q .ro (.assign rfl) rfl ?_;refine Cov.q .ro (.assign rfl) rfl ?_;refine Cov.region_end ?_;refine Cov.seq ?_;refine Cov.region rfl ?_;refine Cov.q .ro (.move rfl) rfl ?_
   obtain ⟨u424, hu424, r425⟩ := bind_some r418; clear r418
   refine Cov.callS (b1 := [_]) (b2 := [_]) (s1 := []) [_, _] [] .ro rfl rfl Try.call20 rfl rfl (play_Dice_Pick_c (G := G) List.mem_cons_self s412 hu424) rfl (fun v427 bo so h426 => ?_)
   obtain ⟨a428, k429, rfl, rfl, rfl, s430⟩ := h426
   refine Cov.same (bl' := [_, _]) (sl' := [_, _]) rfl rfl rfl ?_;refine Cov.q .ro (.eql rfl rfl) rfl ?_;refine Cov.q .ro (.move rfl) rfl ?_;refine Cov.cutR 4 (β := Unit) (fun y => [(26, .bool (decide ((u424.1 = 0) ∧ ((v403.length : Int) < 3))))]) [(5, _), (14, _), (0, _), (2, _), (12, _), (13, _), (6, _), (7, _)] (fun y => G :: Fs) (fun y => []) [_, _] (fun y => []) [_, _] (fun y => True) ⟨rfl, rfl, rfl, rfl, rfl, rfl, rfl, rfl, trivial⟩ [0, 1] rfl [0, 1] rfl ?_ ?_
   ·rintro _ _
    refine Cov.prune [(26, .bool (decide ((u424.1 = 0) ∧ ((v403.length : Int) < 3)))), (5, _), (14, _), (0, _), (2, _), (12, _), (13, _), (6, _), (7, _)] ⟨rfl, rfl, rfl, rfl, rfl, rfl, rfl, rfl, rfl, trivial⟩ ?_;refine Cov.same (bl' := [_, _]) (sl' := [_, _]) (Fs' := G :: Fs) rfl rfl rfl ?_;refine Cov.region_end ?_
    refine Cov.cond_dec rfl (fun c435 => ?_) (fun c435 => ?_)
    ·have r436 := ifT r425 c435; clear r425
     refine Cov.region rfl ?_;refine Cov.q .ro (.move rfl) rfl ?_;refine Cov.q .ro (.move rfl) rfl ?_;refine Cov.q .ro (.move rfl) rfl ?_;refine Cov.q .ro (.mulw rfl rfl) rfl ?_;refine Cov.q .ro (.move rfl) rfl ?_
     obtain ⟨u437, hu437, r438⟩ := bind_some r436; clear r436
     refine Cov.callS (b1 := [_]) (b2 := [_]) (s1 := []) [_, _] [] .ro rfl rfl Try.call20 rfl rfl (play_Dice_Pick_c (G := G) List.mem_cons_self s430 hu437) rfl (fun v440 bo so h439 => ?_)
     obtain ⟨a441, k442, rfl, rfl, rfl, s443⟩ := h439
     refine Cov.same (bl' := [_, _]) (sl' := [_, _]) rfl rfl rfl ?_;refine Cov.q .ro (.addw rfl rfl) rfl ?_;refine Cov.q .ro (.build [_, _] [(0, _), (1, _)] ty63 pl63 rfl rfl) rfl ?_
     refine Cov.lit [_, _] [(0, _)] .ro sl32 ty63 rfl rfl rfl rfl rfl rfl (fun b444 hb444 => ?_)
     have o445 : OL (Rep.pair Rep.str (Rep.int .i64)) G [.string x419, .int .i64 (w64 ((w64 ((i400 : Int) * 100)) + u437.1))] ([(x419, (w64 ((w64 ((i400 : Int) * 100)) + u437.1)))] : List (ByteArray × Int)) := ((OL.cons rfl (Rep.pairI (Rep.strI x419) (Rep.intI .i64 (w64 ((w64 ((i400 : Int) * 100)) + u437.1)))) (OL.nil (Rp' := (Rep.pair Rep.str (Rep.int .i64))))) :)
     refine Cov.reval 35 (n' := ([(x419, (w64 ((w64 ((i400 : Int) * 100)) + u437.1)))] : List (ByteArray × Int)).length) rfl rfl ?_
     obtain ⟨u451, hu451, r452⟩ := bind_some r438; clear r438
     refine Cov.appO (Q := (Rep.pair Rep.str (Rep.int .i64))) 0 .ro sl32 ty63 rfl rfl rfl rfl rfl rfl o407 o445 rfl rfl rfl B0 hu451 rfl (fun a447 k448 cs449 o450 => ?_)
     refine Cov.q .ro (.assign rfl) rfl ?_;refine Cov.region_end ?_;refine Cov.prune [(5, _), (14, _), (0, _), (2, _), (12, _), (13, _)] ⟨rfl, rfl, rfl, rfl, rfl, rfl, trivial⟩ ?_;refine Cov.inBlock ?_;refine Cov.region rfl ?_;refine Cov.q .ro (.addw rfl rfl) rfl ?_;refine Cov.q .ro (.move rfl) rfl ?_;refine Cov.region_end ?_
     refine Cov.prune _ ?_ (Cov.same rfl rfl rfl (hb415 ((i400 + 1), xs420, u451, a447, k448, cs449, u437.2.1, a441, k442, u437.2.2) ⟨o450, s443, (drop_succ g402), r452⟩ (Nat.lt_succ_self _)))
     exact ⟨rfl, (congrArg (fun z => some (Value.int .i64 z)) (idx_wrap (OL.len' o3) g402)), rfl, rfl, rfl, rfl, trivial⟩
    ·have r454 := ifF r425 c435; clear r425
     refine Cov.skip ?_;refine Cov.inBlock ?_;refine Cov.region rfl ?_;refine Cov.q .ro (.addw rfl rfl) rfl ?_;refine Cov.q .ro (.move rfl) rfl ?_;refine Cov.region_end ?_
     refine Cov.prune _ ?_ (Cov.same rfl rfl rfl (hb415 ((i400 + 1), xs420, v403, a404, k405, cs406, u424.2.1, a428, k429, u424.2.2) ⟨o407, s430, (drop_succ g402), r454⟩ (Nat.lt_succ_self _)))
     exact ⟨rfl, (congrArg (fun z => some (Value.int .i64 z)) (idx_wrap (OL.len' o3) g402)), rfl, rfl, rfl, rfl, trivial⟩
   ·intro hb432
    refine Cov.split 22 rfl (fun c431 => ?_) (fun c431 => ?_)
    ·refine Cov.g_on rfl ?_
     refine Cov.q .ro (.move rfl) rfl ?_;refine Cov.g_on rfl ?_;refine Cov.q .ro (.len_sl rfl rfl sl32) rfl ?_;refine Cov.g_on rfl ?_;refine Cov.q .ro (.lss rfl rfl) rfl ?_;refine Cov.q .ro (.pick_t rfl rfl) rfl ?_
     refine Cov.prune _ ?_ (Cov.same rfl rfl rfl (hb432 () trivial))
     exact ⟨dand_t c431, rfl, rfl, rfl, rfl, rfl, rfl, rfl, rfl, trivial⟩
    ·refine Cov.g_off rfl rfl rfl ?_
     refine Cov.g_off rfl rfl rfl ?_;refine Cov.g_off rfl rfl rfl ?_;refine Cov.q .ro (.pick_f rfl rfl) rfl ?_
     refine Cov.prune _ ?_ (Cov.same rfl rfl rfl (hb432 () trivial))
     exact ⟨dand_f c431, rfl, rfl, rfl, rfl, rfl, rfl, rfl, rfl, trivial⟩
set_option maxHeartbeats 4000000 in
set_option maxRecDepth 100000 in
theorem law35_fence_c {Fs : List Hp} {G : Hp} {p0 : Nat} {a0_0 : Option Addr} {k0_0 : Nat} {x0_0 : List Int} {x0_1 : Int} {r : ((Int × (List ByteArray)) × ((List Int) × Int))} (hG : G ∈ Fs) (s0_0 : SlR (Rep.int .u8) G a0_0 k0_0 x0_0) (h : law35_fence (x0_0, x0_1) = some r) : RetW Try.prog 9 #[.pointer (some ⟨p0, 0, none⟩)] Fs [(p0, .cells #[.slice a0_0 x0_0.length k0_0, .int .i64 x0_1] 74 (0, 0))] [] (fun v bo so G => ∃ a0 : Option Addr, ∃ k0 : Nat, ∃ a1 : Option Addr, ∃ k1 : Nat, v = .agg #[.int .i64 r.1.1, .slice a0 r.1.2.length k0] ∧ bo = [(p0, .cells #[.slice a1 r.2.1.length k1, .int .i64 r.2.2] 74 (0, 0))] ∧ so = [] ∧ SlR Rep.str G a0 k0 r.1.2 ∧ SlR (Rep.int .u8) G a1 k1 r.2.1) := by
 unfold law35_fence at h
 try dsimp only at h
 refine RetW.of (vs := [_]) Try.func9 rfl Try.ntmps9 [(0, _)] ⟨rfl, trivial⟩ rfl hG fun w0 S0 hS0 B0 => ?_
 refine Cov.seq ?_;refine Cov.region rfl ?_
 refine Cov.alloc .ro ty37 rfl (fun b1 hb1 => ?_)
 refine Cov.region_end ?_;refine Cov.seq ?_;refine Cov.region rfl ?_;refine Cov.q .ro (.move rfl) rfl ?_
 obtain ⟨u2, hu2, r3⟩ := bind_some h; clear h
 refine Cov.pull 1 rfl [_, _] rfl ?_
 refine Cov.callS (b1 := [_]) (b2 := [_]) (s1 := []) [_, _] [] .ro rfl rfl Try.call20 rfl rfl (play_Dice_Pick_c (G := G) List.mem_cons_self s0_0 hu2) rfl (fun v5 bo so h4 => ?_)
 obtain ⟨a6, k7, rfl, rfl, rfl, s8⟩ := h4
 refine Cov.same (bl' := [_, _]) (sl' := []) rfl rfl rfl ?_;refine Cov.q .ro (.addw rfl rfl) rfl ?_;refine Cov.q .ro (.build [_, _] [(0, _)] ty37 pl37 rfl rfl) rfl ?_
 refine Cov.alloc .ro ty37 rfl (fun b9 hb9 => ?_)
 refine Cov.store 0 [_, _] [_, _, _] .ro rfl rfl rfl ty37 rfl rfl rfl rfl ?_;refine Cov.region_end ?_;refine Cov.seq ?_;refine Cov.seq ?_;refine Cov.region rfl ?_;refine Cov.q .ro (.assign rfl) rfl ?_;refine Cov.region_end ?_;refine Cov.cutB (β := Hp × Int × List ByteArray × Option Addr × Nat × List Value × List Int × Option Addr × Nat × Int × Int) (fun y => []) [(2, _), (3, _)] (fun y => y.1 :: Fs) (fun y => [(b9, .cells #[.int .i64 y.2.1, .slice y.2.2.2.1 y.2.2.1.length y.2.2.2.2.1] 37 (0, 0)), (p0, .cells #[.slice y.2.2.2.2.2.2.2.1 y.2.2.2.2.2.2.1.length y.2.2.2.2.2.2.2.2.1, .int .i64 y.2.2.2.2.2.2.2.2.2.1] 74 (0, 0)), (b1, .cells #[.int .i64 y.2.2.2.2.2.2.2.2.2.2, .slice none 0 0] 37 (0, 0))]) [] (fun y => [.s (.slice y.2.2.2.1 y.2.2.1.length y.2.2.2.2.1) 9 1 y.2.2.1.length y.2.2.2.2.2.1]) [] (fun y => HpLe G y.1 ∧ Bd w0 S0 Fs y.1 ∧ OL Rep.str y.1 y.2.2.2.2.2.1 y.2.2.1 ∧ SlR (Rep.int .u8) y.1 y.2.2.2.2.2.2.2.1 y.2.2.2.2.2.2.2.2.1 y.2.2.2.2.2.2.1 ∧ law35_fence_J1 y.2.1 y.2.2.1 y.2.2.2.2.2.2.1 y.2.2.2.2.2.2.2.2.2.1 y.2.2.2.2.2.2.2.2.2.2 = some r) ⟨rfl, rfl, trivial⟩ [] rfl [] rfl ?_ ?_
 ·intro y hI
  obtain ⟨G128, v132, v133, a134, k135, cs136, v139, a140, k141, v143, v144⟩ := y
  obtain ⟨e129, B130, o137, s142, r146⟩ := hI
  try dsimp only at e129 B130 o137 s142 r146
  refine Cov.prune [(2, _), (3, _)] ⟨rfl, rfl, trivial⟩ ?_;refine Cov.same (bl' := [(b9, .cells #[.int .i64 v132, .slice a134 v133.length k135] 37 (0, 0)), (p0, .cells #[.slice a140 v139.length k141, .int .i64 v143] 74 (0, 0)), (b1, .cells #[.int .i64 v144, .slice none 0 0] 37 (0, 0))]) (sl' := [.s (.slice a134 v133.length k135) 9 1 v133.length cs136]) (Fs' := G128 :: Fs) rfl rfl rfl ?_
  unfold law35_fence_J1 at r146
  try dsimp only at r146
  refine Cov.seq ?_;refine Cov.region rfl ?_;refine Cov.q .ro (.load_own_a 0 [_, _] rfl rfl ty37 rfl) rfl ?_;refine Cov.store 2 [_, _] [_, _, _] .ro rfl rfl rfl ty37 rfl rfl rfl rfl ?_;refine Cov.region_end ?_
  refine Cov.freezeR 0 rfl rfl o137 [] rfl B130 (fun G147 e148 B149 s150 => ?_)
  cases r146
  refine Cov.pull 1 rfl [_, _, _] rfl ?_;refine Cov.pull 2 rfl [_, _, _] rfl ?_;refine Cov.pull 2 rfl [_, _, _] rfl ?_
  refine Cov.retWD 2 (c := ⟨9, none⟩) (.inr ⟨_, rfl⟩) [.cell 2 37] [_] rfl Try.func9 Try.results9 ⟨RV.cell_a 1 [_, _] rfl rfl ty37 rfl, trivial⟩ (fun _ h => List.mem_cons_of_mem _ h) List.mem_cons_self B149 (by subst hS0; simp [blks]) (fun G' hg => ⟨a134, k135, a140, k141, rfl, rfl, rfl, (SlR.mono hg s150), (SlR.mono hg (SlR.mono e148 s142))⟩)
 ·intro hb152
  refine Cov.block ?_;refine Cov.own_nil 9 1 ?_;refine Cov.pull 1 rfl [_, _, _] rfl ?_;refine Cov.pull 1 rfl [_, _, _] rfl ?_
  refine Cov.loop2 (α := Nat × Hp × Int × List ByteArray × Option Addr × Nat × List Value × List Int × Option Addr × Nat × Int) (fun y => [(4, .int .i64 y.2.2.1)]) [(0, _), (2, _), (3, _)] (fun y => [y.2.1]) (fun y => [(b9, .cells #[.int .i64 (w64 (2 + u2.1)), .slice y.2.2.2.2.1 y.2.2.2.1.length y.2.2.2.2.2.1] 37 (0, 0)), (p0, .cells #[.slice y.2.2.2.2.2.2.2.2.1 y.2.2.2.2.2.2.2.1.length y.2.2.2.2.2.2.2.2.2.1, .int .i64 y.2.2.2.2.2.2.2.2.2.2] 74 (0, 0))]) [_] (fun y => [.s (.slice y.2.2.2.2.1 y.2.2.2.1.length y.2.2.2.2.2.1) 9 1 y.2.2.2.1.length y.2.2.2.2.2.2.1]) [] (fun y => HpLe G y.2.1 ∧ Bd w0 S0 Fs y.2.1 ∧ OL Rep.str y.2.1 y.2.2.2.2.2.2.1 y.2.2.2.1 ∧ SlR (Rep.int .u8) y.2.1 y.2.2.2.2.2.2.2.2.1 y.2.2.2.2.2.2.2.2.2.1 y.2.2.2.2.2.2.2.1 ∧ law35_fence_L2 law35_fence_J1 (w64 (2 + u2.1)) y.1 y.2.2.1 y.2.2.2.1 y.2.2.2.2.2.2.2.1 y.2.2.2.2.2.2.2.2.2.2 = some r) (fun y => y.1) (big, G, 0, ([] : List ByteArray), none, 0, [], u2.2.1, a6, k7, u2.2.2) ⟨(HpLe.refl _), B0, (OL.nil (Rp' := Rep.str)), s8, r3⟩ ⟨rfl, rfl, rfl, rfl, trivial⟩ rfl rfl rfl (fun y hI hb240 => ?_)
  obtain ⟨n221, G223, v227, v228, a229, k230, cs231, v234, a235, k236, v238⟩ := y
  obtain ⟨e224, B225, o232, s237, r239⟩ := hI
  try dsimp only at e224 B225 o232 s237 r239
  refine Cov.prune [(4, .int .i64 v227), (0, _), (2, _), (3, _)] ⟨rfl, rfl, rfl, rfl, trivial⟩ ?_;refine Cov.same (bl' := [(b9, .cells #[.int .i64 (w64 (2 + u2.1)), .slice a229 v228.length k230] 37 (0, 0)), (p0, .cells #[.slice a235 v234.length k236, .int .i64 v238] 74 (0, 0)), _]) (sl' := [.s (.slice a229 v228.length k230) 9 1 v228.length cs231]) (Fs' := G223 :: Fs) rfl rfl rfl ?_
  obtain ⟨m243, rfl⟩ : ∃ m, n221 = m + 1 := by cases n221 with | zero => exact absurd (show (none : Option _) = some _ from r239) (by simp) | succ m => exact ⟨m, rfl⟩
  have r242 : law35_fence_B2 law35_fence_J1 (w64 (2 + u2.1)) (law35_fence_L2 law35_fence_J1 (w64 (2 + u2.1)) m243) v227 v228 v234 v238 = some r := r239; clear r239; unfold law35_fence_B2 at r242; try dsimp only at r242
  refine Cov.seq ?_;refine Cov.seq ?_;refine Cov.region rfl ?_;refine Cov.q .ro (.move rfl) rfl ?_;refine Cov.q .ro (.move rfl) rfl ?_
  obtain ⟨u244, hu244, r245⟩ := bind_some r242; clear r242
  refine Cov.pull 1 rfl [_, _, _] rfl ?_
  refine Cov.callS (b1 := [_]) (b2 := [_, _]) (s1 := []) [_, _] [] .ro rfl rfl Try.call20 rfl rfl (play_Dice_Pick_c (G := G223) List.mem_cons_self s237 hu244) rfl (fun v247 bo so h246 => ?_)
  obtain ⟨a248, k249, rfl, rfl, rfl, s250⟩ := h246
  refine Cov.same (bl' := [_, _, _]) (sl' := [_]) rfl rfl rfl ?_;refine Cov.q .ro (.addw rfl rfl) rfl ?_;refine Cov.q .ro (.lss rfl rfl) rfl ?_;refine Cov.region_end ?_
  refine Cov.cond_dec rfl (fun c251 => ?_) (fun c251 => ?_)
  ·have r252 := ifT r245 c251; clear r245
   refine Cov.skip ?_;refine Cov.seq ?_;refine Cov.block ?_;refine Cov.region rfl ?_;refine Cov.q .ro (.fieldAddr 1 rfl fl37_1 ty35.sz rfl) rfl ?_;refine Cov.q .ro (.load_own 1 rfl rfl ty35 rfl) rfl ?_;refine Cov.q .ro (.move rfl) rfl ?_;refine Cov.q .ro (.mulw rfl rfl) rfl ?_;refine Cov.q .ro (.convw Try.underlying3 Try.underlying5 rfl) rfl ?_
   refine Cov.q .ro (.addw rfl rfl) rfl ?_
   refine Cov.lit [_] [(0, _)] .ro sl22 ty5 rfl rfl rfl rfl rfl rfl (fun b253 hb253 => ?_)
   have o254 : OL (Rep.int .u8) G223 [.int .u8 (wu8 (97 + (wu8 (w64 (2 * v227)))))] ([(wu8 (97 + (wu8 (w64 (2 * v227)))))] : List Int) := ((OL.cons rfl (Rep.intI .u8 (wu8 (97 + (wu8 (w64 (2 * v227)))))) (OL.nil (Rp' := (Rep.int .u8)))) :)
   refine Cov.reval 22 (n' := ([(wu8 (97 + (wu8 (w64 (2 * v227)))))] : List Int).length) rfl rfl ?_
   refine Cov.freezeR 0 rfl rfl o254 [_] rfl B225 (fun G256 e257 B258 s259 => ?_)
   refine Cov.q .ro (.b2s s259 List.mem_cons_self rfl Try.underlying22 Try.underlying5 Try.underlying9) rfl ?_
   refine Cov.lit [_] [(0, _)] .ro sl35 ty9 rfl rfl rfl rfl rfl rfl (fun b261 hb261 => ?_)
   have o262 : OL Rep.str G256 [.string (ofB ([(wu8 (97 + (wu8 (w64 (2 * v227)))))] : List Int))] ([(ofB ([(wu8 (97 + (wu8 (w64 (2 * v227)))))] : List Int))] : List ByteArray) := ((OL.cons rfl (Rep.strI (ofB ([(wu8 (97 + (wu8 (w64 (2 * v227)))))] : List Int))) (OL.nil (Rp' := Rep.str))) :)
   refine Cov.reval 24 (n' := ([(ofB ([(wu8 (97 + (wu8 (w64 (2 * v227)))))] : List Int))] : List ByteArray).length) rfl rfl ?_
   obtain ⟨u268, hu268, r269⟩ := bind_some r252; clear r252
   refine Cov.appO (Q := Rep.str) 0 .ro sl35 ty9 rfl rfl rfl rfl rfl rfl (OL.mono e257 o232) o262 rfl rfl rfl B258 hu268 rfl (fun a264 k265 cs266 o267 => ?_)
   refine Cov.q .ro (.fieldAddr 1 rfl fl37_1 ty35.sz rfl) rfl ?_;refine Cov.store 1 [_, _] [_, _, _] .ro rfl rfl rfl ty35 rfl rfl rfl rfl ?_;refine Cov.region_end ?_;refine Cov.prune [(4, _), (0, _), (2, _), (3, _)] ⟨rfl, rfl, rfl, rfl, trivial⟩ ?_;refine Cov.inBlock ?_;refine Cov.region rfl ?_;refine Cov.q .ro (.move rfl) rfl ?_;refine Cov.q .ro (.addw rfl rfl) rfl ?_;refine Cov.q .ro (.assign rfl) rfl ?_
   refine Cov.region_end ?_;refine Cov.pull 2 rfl [_, _, _] rfl ?_;refine Cov.pull 1 rfl [_, _, _] rfl ?_;refine Cov.pull 2 rfl [_, _, _] rfl ?_
   refine Cov.prune _ ?_ (Cov.same rfl rfl rfl (hb240 (m243, G256, (w64 (v227 + 1)), u268, a264, k265, cs266, u244.2.1, a248, k249, u244.2.2) ⟨(HpLe.trans e224 e257), B258, o267, (SlR.mono e257 s250), r269⟩ (Nat.lt_succ_self _)))
   exact ⟨rfl, rfl, rfl, rfl, trivial⟩
  ·have r271 := ifF r245 c251; clear r245
   refine Cov.exit rfl ?_;refine Cov.pull 2 rfl [_, _, _] rfl ?_;refine Cov.pull 1 rfl [_, _, _] rfl ?_;refine Cov.pull 2 rfl [_, _, _] rfl ?_
   refine Cov.prune _ ?_ (Cov.same rfl rfl rfl (hb152 (G223, (w64 (2 + u2.1)), v228, a229, k230, cs231, u244.2.1, a248, k249, u244.2.2, 0) ⟨e224, B225, o232, s250, r271⟩))
   exact ⟨rfl, rfl, trivial⟩
set_option maxHeartbeats 4000000 in
set_option maxRecDepth 100000 in
theorem slices_Backward_LLstringLstring_f1_i {Fs : List Hp} {G : Hp} {p1 : Value} {a1 : Option Addr} {k1 : Nat} {x1 : List (List ByteArray)} {l : (List (Int × (List ByteArray)))} (hG : G ∈ Fs) (hp1 : Rp G p1 [.slice a1 x1.length k1]) (s1 : SlR (Rep.sl Rep.str) G a1 k1 x1) (h : slices_Backward_LLstringLstring_f1 x1 = some l) : IterX Try.prog 66 [p1] Fs l.length (fun i v => ∃ x, l[i]? = some x ∧ (Yr.pair (Yr.v (Rep.int .i64)) (Yr.v (Rep.sl Rep.str))).r G v x) := by
 unfold slices_Backward_LLstringLstring_f1 at h
 try dsimp only at h
 intro y 𝒢 ℰ R0 hy hR0
 refine RetG.of (vs := [_, _]) Try.func66 rfl Try.ntmps66 [(0, _), (1, _)] ⟨rfl, rfl, trivial⟩ rfl fun w0 => Cov.dup hG ?_
 have B0 : Bd w0 (blks [] [.g R0]) Fs G := Bd.fin hG
 generalize hS0 : blks [] [.g R0] = S0 at B0 ⊢
 replace h : _ = some (List.drop 0 l) := h
 refine Cov.seq ?_;refine Cov.region rfl ?_;refine Cov.q .ro (.load_rp hp1 List.mem_cons_self rfl ty49 rfl) rfl ?_;refine Cov.q .ro (.len_sl rfl rfl sl49) rfl ?_;refine Cov.q .ro (.subw rfl rfl) rfl ?_;refine Cov.q .ro (.assign rfl) rfl ?_;refine Cov.region_end ?_;refine Cov.block ?_
 refine Cov.loop2 (α := Nat × Guest × Nat × Int) (fun y => [(3, .int .i64 y.2.2.2)]) [(0, _), (1, _)] (fun y => []) (fun y => []) [] (fun y => [.g y.2.1]) [] (fun y => 𝒢 y.2.2.1 y.2.1 ∧ y.2.2.1 ≤ l.length ∧ slices_Backward_LLstringLstring_f1_L1 x1 y.1 y.2.2.2 = some (List.drop y.2.2.1 l)) (fun y => y.1) (big, R0, 0, (w64 ((x1.length : Int) - 1))) ⟨hR0, (Nat.zero_le _), h⟩ ⟨rfl, rfl, rfl, trivial⟩ rfl rfl rfl (fun y hI hb28 => ?_)
 obtain ⟨n20, R22, i23, v26⟩ := y
 obtain ⟨hR24, le25, r27⟩ := hI
 try dsimp only at hR24 le25 r27
 refine Cov.prune [(3, .int .i64 v26), (0, _), (1, _)] ⟨rfl, rfl, rfl, trivial⟩ ?_;refine Cov.same (bl' := []) (sl' := [.g R22]) (Fs' := G :: Fs) rfl rfl rfl ?_
 obtain ⟨m31, rfl⟩ : ∃ m, n20 = m + 1 := by cases n20 with | zero => exact absurd (show (none : Option _) = some _ from r27) (by simp) | succ m => exact ⟨m, rfl⟩
 have r30 : slices_Backward_LLstringLstring_f1_B1 x1 (slices_Backward_LLstringLstring_f1_L1 x1 m31) v26 = some (List.drop i23 l) := r27; clear r27; unfold slices_Backward_LLstringLstring_f1_B1 at r30; try dsimp only at r30
 refine Cov.seq ?_;refine Cov.seq ?_;refine Cov.region rfl ?_;refine Cov.q .ro (.move rfl) rfl ?_;refine Cov.q .ro (.geq rfl rfl) rfl ?_;refine Cov.region_end ?_
 refine Cov.cond_dec rfl (fun c32 => ?_) (fun c32 => ?_)
 ·have r33 := ifT r30 c32; clear r30
  refine Cov.skip ?_;refine Cov.seq ?_;refine Cov.block ?_;refine Cov.seq ?_;refine Cov.region rfl ?_;refine Cov.q .ro (.move rfl) rfl ?_;refine Cov.q .ro (.move rfl) rfl ?_;refine Cov.q .ro (.load_rp hp1 List.mem_cons_self rfl ty49 rfl) rfl ?_;refine Cov.q .ro (.move rfl) rfl ?_
  obtain ⟨u34, hu34, r35⟩ := bind_some r33; clear r33
  obtain ⟨c36, p37, h38⟩ := SlR.get s1 hu34
  obtain ⟨a39, k40, rfl, s41⟩ := h38
  refine Cov.q .ro (.idxR s1 rfl rfl hu34 sl49 ty35.sz) rfl ?_;refine Cov.q .ro (.load_rp p37 List.mem_cons_self rfl ty35 rfl) rfl ?_
  obtain ⟨h42, r43⟩ := yc_some r35; clear r35
  refine Cov.yieldX hy ⟨_, h42, ⟨[_], _, rfl, ⟨_, rfl, ((Rep.intI .i64 v26) :)⟩, ⟨_, rfl, ((Rep.slI s41) :)⟩⟩⟩ hR24 (fun _ h => List.mem_cons_of_mem _ h) rfl rfl rfl (fun R44 hR45 => ?_) (fun R46 hE47 => ?_)
  ·refine Cov.q .ro (.not_t rfl) rfl ?_
   refine Cov.region_end ?_;refine Cov.cond_false rfl ?_;refine Cov.skip ?_;refine Cov.inBlock ?_;refine Cov.region rfl ?_;refine Cov.q .ro (.move rfl) rfl ?_;refine Cov.q .ro (.subw rfl rfl) rfl ?_;refine Cov.q .ro (.assign rfl) rfl ?_;refine Cov.region_end ?_
   refine Cov.prune _ ?_ (Cov.same rfl rfl rfl (hb28 (m31, R44, (i23 + 1), (w64 (v26 - 1))) ⟨hR45, (yc_le h42), r43⟩ (Nat.lt_succ_self _)))
   exact ⟨rfl, rfl, rfl, trivial⟩
  ·refine Cov.q .ro (.not_f rfl) rfl ?_
   refine Cov.region_end ?_;refine Cov.cond_true rfl ?_
   refine Cov.leave (c := ⟨66, none⟩) (.inr ⟨_, rfl⟩) [] [] rfl Try.func66 Try.results66 trivial (fun _ h => List.mem_cons_of_mem _ h) (.inl rfl) (fresh_emp _) ⟨rfl, R46, .inr hE47, rfl⟩
 ·have r48 := ifF r30 c32; clear r30
  refine Cov.exit rfl ?_
  have hi := yc_end r48 le25
  refine Cov.leave (c := ⟨66, none⟩) (.inl rfl) [] [] rfl Try.func66 Try.results66 trivial (fun _ h => List.mem_cons_of_mem _ h) (.inl rfl) (fresh_emp _) ⟨rfl, R22, .inl (hi ▸ hR24), rfl⟩
set_option maxHeartbeats 4000000 in
set_option maxRecDepth 100000 in
theorem slices_Backward_LLstringLstring_c {Fs : List Hp} {G : Hp} {a0 : Option Addr} {k0 : Nat} {x0 : List (List ByteArray)} {r : (List (Int × (List ByteArray)))} (hG : G ∈ Fs) (s0 : SlR (Rep.sl Rep.str) G a0 k0 x0) (h : slices_Backward_LLstringLstring x0 = some r) : RetW Try.prog 46 #[.slice a0 x0.length k0] Fs [] [] (fun v bo so G => ∃ (Fi0 : FuncId) (ci0 : List Value), v = .func (.func Fi0) #[] ci0.toArray ∧ bo = [] ∧ so = [] ∧ (∀ args w, (callFunc Fi0 args).run Try.prog w = .ok (.enter Fi0 args) w) ∧ IterRX Try.prog (Yr.pair (Yr.v (Rep.int .i64)) (Yr.v (Rep.sl Rep.str))) Fi0 ci0 G r) := by
 unfold slices_Backward_LLstringLstring at h
 try dsimp only at h
 refine RetW.of (vs := [_]) Try.func46 rfl Try.ntmps46 [(0, _)] ⟨rfl, trivial⟩ rfl hG fun w0 S0 hS0 B0 => ?_
 refine Cov.seq ?_;refine Cov.region rfl ?_
 refine Cov.box [_] .ro rfl rfl rfl (fun b1 hb1 => ?_)
 refine Cov.q .ro (.assign rfl) rfl ?_;refine Cov.region_end ?_;refine Cov.seq ?_;refine Cov.region rfl ?_;refine Cov.q .ro (.makeFunc (vf := []) (vc := [_]) rfl rfl) rfl ?_;refine Cov.q .ro (.assign rfl) rfl ?_;refine Cov.region_end ?_
 refine Cov.freezeBR 0 rfl [] rfl B0 (fun G2 e3 B4 p5 => ?_)
 obtain ⟨u7, hu7, r8⟩ := bind_some h; clear h
 cases r8
 refine Cov.retW (c := ⟨46, none⟩) (.inr ⟨_, rfl⟩) [.tmp 2] [_] rfl Try.func46 Try.results46 ⟨RV.tmp rfl, trivial⟩ (fun _ h => List.mem_cons_of_mem _ h) List.mem_cons_self B4 (by subst hS0; simp [blks]) (fun G' hg => ⟨_, _, rfl, rfl, rfl, Try.call66, (fun Fs' G1 hle hm => slices_Backward_LLstringLstring_f1_i (G := G1) hm (Rp.mono (HpLe.trans hg hle) p5) (SlR.mono (HpLe.trans hg hle) (SlR.mono e3 s0)) hu7)⟩)
set_option maxHeartbeats 4000000 in
set_option maxRecDepth 100000 in
theorem sort_Search_c {Fs : List Hp} {G : Hp} {x0 : Int} {F1 : FuncId} {c1 : List Value} {x1 : Int → Option Bool} {r : Int} (hG : G ∈ Fs) (hc1 : ∀ args w, (callFunc F1 args).run Try.prog w = .ok (.enter F1 args) w) (hf1 : ∀ (Fs' : List Hp) (G1 : Hp), HpLe G G1 → G1 ∈ Fs' → ∀ (y0 : Int) (r : Bool), x1 y0 = some r → RetS Try.prog F1 (([.int .i64 y0] : List Value) ++ c1).toArray Fs' [] [] (fun v bo so => v = .bool r ∧ bo = [] ∧ so = [])) (h : sort_Search x0 x1 = some r) : RetS Try.prog 80 #[.int .i64 x0, .func (.func F1) #[] c1.toArray] Fs [] [] (fun v bo so => v = .int .i64 r ∧ bo = [] ∧ so = []) := by
 unfold sort_Search at h
 try dsimp only at h
 refine RetS.of (vs := [_, _]) Try.func80 rfl Try.ntmps80 [(0, _), (1, _)] ⟨rfl, rfl, trivial⟩ rfl hG fun w0 S0 hS0 B0 => ?_
 refine Cov.seq ?_;refine Cov.region rfl ?_;refine Cov.q .ro (.assign rfl) rfl ?_;refine Cov.region_end ?_;refine Cov.seq ?_;refine Cov.region rfl ?_;refine Cov.q .ro (.move rfl) rfl ?_;refine Cov.q .ro (.assign rfl) rfl ?_;refine Cov.q .ro (.assign rfl) rfl ?_
 refine Cov.region_end ?_;refine Cov.seq ?_;refine Cov.block ?_
 refine Cov.loop2 (α := Nat × Int × Int) (fun y => [(5, .int .i64 y.2.1), (6, .int .i64 y.2.2)]) [(1, _)] (fun y => []) (fun y => []) [] (fun y => []) [] (fun y => sort_Search_L1 x1 y.1 y.2.1 y.2.2 = some r) (fun y => y.1) (big, 0, x0) h ⟨rfl, rfl, rfl, trivial⟩ rfl rfl rfl (fun y hI hb19 => ?_)
 obtain ⟨n14, v16, v17⟩ := y
 have r18 := hI; clear hI
 try dsimp only at r18
 refine Cov.prune [(5, .int .i64 v16), (6, .int .i64 v17), (1, _)] ⟨rfl, rfl, rfl, trivial⟩ ?_;refine Cov.same (bl' := []) (sl' := []) (Fs' := G :: Fs) rfl rfl rfl ?_
 obtain ⟨m22, rfl⟩ : ∃ m, n14 = m + 1 := by cases n14 with | zero => exact absurd (show (none : Option _) = some _ from r18) (by simp) | succ m => exact ⟨m, rfl⟩
 have r21 : sort_Search_B1 x1 (sort_Search_L1 x1 m22) v16 v17 = some r := r18; clear r18; unfold sort_Search_B1 at r21; try dsimp only at r21
 refine Cov.seq ?_;refine Cov.seq ?_;refine Cov.region rfl ?_;refine Cov.q .ro (.move rfl) rfl ?_;refine Cov.q .ro (.move rfl) rfl ?_;refine Cov.q .ro (.lss rfl rfl) rfl ?_;refine Cov.region_end ?_
 refine Cov.cond_dec rfl (fun c23 => ?_) (fun c23 => ?_)
 ·have r24 := ifT r21 c23; clear r21
  refine Cov.skip ?_;refine Cov.block ?_;refine Cov.seq ?_;refine Cov.region rfl ?_;refine Cov.q .ro (.move rfl) rfl ?_;refine Cov.q .ro (.move rfl) rfl ?_;refine Cov.q .ro (.addw rfl rfl) rfl ?_;refine Cov.q .ro (.convw Try.underlying3 Try.underlying111 rfl) rfl ?_;refine Cov.q .ro (.shr1 rfl rfl (by decide)) rfl ?_
  refine Cov.q .ro (.convw Try.underlying111 Try.underlying3 rfl) rfl ?_;refine Cov.q .ro (.assign rfl) rfl ?_;refine Cov.region_end ?_;refine Cov.seq ?_;refine Cov.region rfl ?_;refine Cov.q .ro (.move rfl) rfl ?_;refine Cov.q .ro (.move rfl) rfl ?_
  obtain ⟨u25, hu25, r26⟩ := bind_some r24; clear r24
  refine Cov.callS (b1 := []) (b2 := []) (s1 := []) [_] c1 .ro rfl rfl hc1 rfl rfl (hf1 _ G (HpLe.refl _) List.mem_cons_self _ _  hu25) rfl (fun v28 bo so h27 => ?_)
  obtain ⟨rfl, rfl, rfl⟩ := h27
  refine Cov.same (bl' := []) (sl' := []) rfl rfl rfl ?_;refine Cov.q .ro (.not rfl) rfl ?_;refine Cov.region_end ?_
  refine Cov.cond rfl (fun c29 => ?_) (fun c29 => ?_)
  ·have r30 := ifT r26 c29; clear r26
   refine Cov.region rfl ?_;refine Cov.q .ro (.move rfl) rfl ?_;refine Cov.q .ro (.addw rfl rfl) rfl ?_;refine Cov.q .ro (.assign rfl) rfl ?_;refine Cov.region_end ?_;refine Cov.prune [(5, _), (6, _), (1, _)] ⟨rfl, rfl, rfl, trivial⟩ ?_;refine Cov.inBlock ?_
   refine Cov.prune _ ?_ (Cov.same rfl rfl rfl (hb19 (m22, (w64 ((w64 ((IntKind.u64.wrap (w64 (v16 + v17))) / 2)) + 1)), v17) r30 (Nat.lt_succ_self _)))
   exact ⟨rfl, rfl, rfl, trivial⟩
  ·have r31 := ifBF r26 c29; clear r26
   refine Cov.region rfl ?_;refine Cov.q .ro (.move rfl) rfl ?_;refine Cov.q .ro (.assign rfl) rfl ?_;refine Cov.region_end ?_;refine Cov.prune [(5, _), (6, _), (1, _)] ⟨rfl, rfl, rfl, trivial⟩ ?_;refine Cov.inBlock ?_
   refine Cov.prune _ ?_ (Cov.same rfl rfl rfl (hb19 (m22, v16, (w64 ((IntKind.u64.wrap (w64 (v16 + v17))) / 2))) r31 (Nat.lt_succ_self _)))
   exact ⟨rfl, rfl, rfl, trivial⟩
 ·have r32 := ifF r21 c23; clear r21
  refine Cov.exit rfl ?_;refine Cov.seq ?_;refine Cov.region rfl ?_;refine Cov.q .ro (.move rfl) rfl ?_;refine Cov.q .ro (.assign rfl) rfl ?_;refine Cov.region_end ?_
  cases r32
  refine Cov.retS (c := ⟨80, none⟩) (.inr ⟨_, rfl⟩) [.tmp 4] [_] rfl Try.func80 Try.results80 ⟨RV.tmp rfl, trivial⟩ (fun _ h => List.mem_cons_of_mem _ h) ⟨rfl, rfl, rfl⟩
set_option maxHeartbeats 4000000 in
set_option maxRecDepth 100000 in
theorem fence_behind_f1_c {Fs : List Hp} {G : Hp} {x0 : Int} {p1 : Value} {a1 : Option Addr} {k1 : Nat} {x1 : List ByteArray} {p2 : Value} {x2 : ByteArray} {r : Bool} (hG : G ∈ Fs) (hp1 : Rp G p1 [.slice a1 x1.length k1]) (s1 : SlR Rep.str G a1 k1 x1) (hp2 : Rp G p2 [.string x2]) (h : fence_behind_f1 x0 x1 x2 = some r) : RetS Try.prog 81 #[.int .i64 x0, p1, p2] Fs [] [] (fun v bo so => v = .bool r ∧ bo = [] ∧ so = []) := by
 unfold fence_behind_f1 at h
 try dsimp only at h
 refine RetS.of (vs := [_, _, _]) Try.func81 rfl Try.ntmps81 [(0, _), (1, _), (2, _)] ⟨rfl, rfl, rfl, trivial⟩ rfl hG fun w0 S0 hS0 B0 => ?_
 refine Cov.seq ?_;refine Cov.region rfl ?_;refine Cov.q .ro (.assign rfl) rfl ?_;refine Cov.region_end ?_;refine Cov.seq ?_;refine Cov.drawL (.q 0 (.q 1 (.q 2 (.q 3 (.q 4 (.q 5 (.q 6 .nil))))))) [] (by kernel_rfl) (by kernel_rfl) (pick_mem [] rfl) ?_;refine Cov.dq (.load_rp hp1 List.mem_cons_self rfl ty35 rfl) rfl ?_;refine Cov.dq (.move rfl) rfl ?_
 obtain ⟨u1, hu1, r2⟩ := bind_some h; clear h
 obtain ⟨c3, p4, h5⟩ := SlR.get s1 hu1
 obtain rfl := h5
 refine Cov.dq (.idxR s1 rfl rfl hu1 sl35 ty9.sz) rfl ?_;refine Cov.dq (.load_rp p4 List.mem_cons_self rfl ty9 rfl) rfl ?_;refine Cov.dq (.load_rp hp2 List.mem_cons_self rfl ty9 rfl) rfl ?_;refine Cov.dq (.gtr_d rfl rfl) rfl ?_;refine Cov.dq (.assign rfl) rfl ?_;refine Cov.draw_end ?_
 cases r2
 refine Cov.retS (c := ⟨81, none⟩) (.inr ⟨_, rfl⟩) [.tmp 4] [_] rfl Try.func81 Try.results81 ⟨RV.tmp rfl, trivial⟩ (fun _ h => List.mem_cons_of_mem _ h) ⟨rfl, rfl, rfl⟩
set_option maxHeartbeats 4000000 in
set_option maxRecDepth 100000 in
theorem fence_behind_c {Fs : List Hp} {G : Hp} {a0 : Option Addr} {k0 : Nat} {x0 : List ByteArray} {x1 : ByteArray} {r : Int} (hG : G ∈ Fs) (s0 : SlR Rep.str G a0 k0 x0) (h : fence_behind x0 x1 = some r) : RetS Try.prog 69 #[.slice a0 x0.length k0, .string x1] Fs [] [] (fun v bo so => v = .int .i64 r ∧ bo = [] ∧ so = []) := by
 unfold fence_behind at h
 try dsimp only at h
 refine RetS.of (vs := [_, _]) Try.func69 rfl Try.ntmps69 [(0, _), (1, _)] ⟨rfl, rfl, trivial⟩ rfl hG fun w0 S0 hS0 B0 => ?_
 refine Cov.seq ?_;refine Cov.region rfl ?_
 refine Cov.box [_] .ro rfl rfl rfl (fun b1 hb1 => ?_)
 refine Cov.box [_] .ro rfl rfl rfl (fun b2 hb2 => ?_)
 refine Cov.q .ro (.assign rfl) rfl ?_;refine Cov.region_end ?_;refine Cov.seq ?_;refine Cov.region rfl ?_;refine Cov.q .ro (.load_own 1 rfl rfl ty35 rfl) rfl ?_;refine Cov.q .ro (.len_sl rfl rfl sl35) rfl ?_;refine Cov.q .ro (.makeFunc (vf := []) (vc := [_, _]) rfl rfl) rfl ?_
 refine Cov.freezeBR 1 rfl [_] rfl B0 (fun G3 e4 B5 p6 => ?_)
 refine Cov.freezeBR 0 rfl [] rfl B5 (fun G8 e9 B10 p11 => ?_)
 obtain ⟨u13, hu13, r14⟩ := bind_some h; clear h
 refine Cov.callS (b1 := []) (b2 := []) (s1 := []) [_, _] [] .ro rfl rfl Try.call80 rfl rfl (sort_Search_c (G := G8) List.mem_cons_self Try.call81 (fun Fs' G1 hle hm y0 r  hr => fence_behind_f1_c (G := G1) hm  (Rp.mono hle (Rp.mono e9 p6)) (SlR.mono hle (SlR.mono (HpLe.trans e4 e9) s0)) (Rp.mono hle p11) hr) hu13) rfl (fun v16 bo so h15 => ?_)
 obtain ⟨rfl, rfl, rfl⟩ := h15
 refine Cov.same (bl' := []) (sl' := []) rfl rfl rfl ?_;refine Cov.q .ro (.assign rfl) rfl ?_;refine Cov.region_end ?_
 cases r14
 refine Cov.retS (c := ⟨69, none⟩) (.inr ⟨_, rfl⟩) [.tmp 4] [_] rfl Try.func69 Try.results69 ⟨RV.tmp rfl, trivial⟩ (fun _ h => List.mem_cons_of_mem _ h) ⟨rfl, rfl, rfl⟩
set_option maxHeartbeats 4000000 in
set_option maxRecDepth 100000 in
theorem fence_last_c {Fs : List Hp} {G : Hp} {a0 : Option Addr} {k0 : Nat} {x0 : List ByteArray} {x1 : ByteArray} {r : Int} (hG : G ∈ Fs) (s0 : SlR Rep.str G a0 k0 x0) (h : fence_last x0 x1 = some r) : RetS Try.prog 48 #[.slice a0 x0.length k0, .string x1] Fs [] [] (fun v bo so => v = .int .i64 r ∧ bo = [] ∧ so = []) := by
 unfold fence_last at h
 try dsimp only at h
 refine RetS.of (vs := [_, _]) Try.func48 rfl Try.ntmps48 [(0, _), (1, _)] ⟨rfl, rfl, trivial⟩ rfl hG fun w0 S0 hS0 B0 => ?_
 refine Cov.seq ?_;refine Cov.region rfl ?_;refine Cov.q .ro (.assign rfl) rfl ?_;refine Cov.region_end ?_;refine Cov.seq ?_;refine Cov.region rfl ?_;refine Cov.q .ro (.move rfl) rfl ?_;refine Cov.q .ro (.move rfl) rfl ?_
 obtain ⟨u1, hu1, r2⟩ := bind_some h; clear h
 refine Cov.callS (b1 := []) (b2 := []) (s1 := []) [_, _] [] .ro rfl rfl Try.call69 rfl rfl (fence_behind_c (G := G) List.mem_cons_self s0 hu1) rfl (fun v4 bo so h3 => ?_)
 obtain ⟨rfl, rfl, rfl⟩ := h3
 refine Cov.same (bl' := []) (sl' := []) rfl rfl rfl ?_;refine Cov.q .ro (.subw rfl rfl) rfl ?_;refine Cov.q .ro (.max2 rfl rfl) rfl ?_;refine Cov.q .ro (.assign rfl) rfl ?_;refine Cov.region_end ?_
 cases r2
 refine Cov.retS (c := ⟨48, none⟩) (.inr ⟨_, rfl⟩) [.tmp 4] [_] rfl Try.func48 Try.results48 ⟨RV.tmp rfl, trivial⟩ (fun _ h => List.mem_cons_of_mem _ h) ⟨rfl, rfl, rfl⟩
set_option maxHeartbeats 4000000 in
set_option maxRecDepth 100000 in
theorem fence_blockOf_c {Fs : List Hp} {G : Hp} {a0 : Option Addr} {k0 : Nat} {x0 : List ByteArray} {x1 : Int} {x2 : Int} {r : (List ByteArray)} (hG : G ∈ Fs) (s0 : SlR Rep.str G a0 k0 x0) (h : fence_blockOf x0 x1 x2 = some r) : RetS Try.prog 49 #[.slice a0 x0.length k0, .int .i64 x1, .int .i64 x2] Fs [] [] (fun v bo so => ∃ a0 : Option Addr, ∃ k0 : Nat, v = .slice a0 r.length k0 ∧ bo = [] ∧ so = [] ∧ SlR Rep.str G a0 k0 r) := by
 unfold fence_blockOf at h
 try dsimp only at h
 refine RetS.of (vs := [_, _, _]) Try.func49 rfl Try.ntmps49 [(0, _), (1, _), (2, _)] ⟨rfl, rfl, rfl, trivial⟩ rfl hG fun w0 S0 hS0 B0 => ?_
 refine Cov.seq ?_;refine Cov.region rfl ?_;refine Cov.q .ro (.assign rfl) rfl ?_;refine Cov.region_end ?_;refine Cov.seq ?_;refine Cov.region rfl ?_;refine Cov.q .ro (.move rfl) rfl ?_;refine Cov.q .ro (.move rfl) rfl ?_;refine Cov.q .ro (.move rfl) rfl ?_
 refine Cov.q .ro (.mulw rfl rfl) rfl ?_;refine Cov.q .ro (.move rfl) rfl ?_;refine Cov.q .ro (.addw rfl rfl) rfl ?_;refine Cov.q .ro (.move rfl) rfl ?_;refine Cov.q .ro (.mulw rfl rfl) rfl ?_;refine Cov.q .ro (.move rfl) rfl ?_;refine Cov.q .ro (.len_sl rfl rfl sl35) rfl ?_;refine Cov.q .ro (.min2 rfl rfl) rfl ?_
 obtain ⟨u1, hu1, r2⟩ := bind_some h; clear h
 obtain ⟨a3, k4, h5, s6⟩ := SlR.sub s0 hu1
 refine Cov.q .ro (.sliceR s0 rfl hu1 sl35 ty9.sz (fun h => .yes' rfl h) (fun h => .yes' rfl h) h5) rfl ?_;refine Cov.q .ro (.assign rfl) rfl ?_;refine Cov.region_end ?_;refine Cov.prune [(6, _)] ⟨rfl, trivial⟩ ?_
 cases r2
 refine Cov.retS (c := ⟨49, none⟩) (.inr ⟨_, rfl⟩) [.tmp 6] [_] rfl Try.func49 Try.results49 ⟨RV.tmp rfl, trivial⟩ (fun _ h => List.mem_cons_of_mem _ h) ⟨a3, k4, rfl, rfl, rfl, s6⟩
set_option maxHeartbeats 4000000 in
set_option maxRecDepth 100000 in
theorem fence_Probe_c {Fs : List Hp} {G : Hp} {x0_0 : Int} {a0_1 : Option Addr} {k0_1 : Nat} {x0_1 : List ByteArray} {x1 : ByteArray} {r : ((List Int) × Int × Bool × Int)} (hG : G ∈ Fs) (s0_1 : SlR Rep.str G a0_1 k0_1 x0_1) (h : fence_Probe (x0_0, x0_1) x1 = some r) : RetS Try.prog 22 #[.agg #[.int .i64 x0_0, .slice a0_1 x0_1.length k0_1], .string x1] Fs [] [] (fun v bo so => ∃ (oa0 : Option Addr) (ok0 : Nat) (oc0 : List Value), v = .tuple #[.slice oa0 r.1.length ok0, .int .i64 r.2.1, .bool r.2.2.1, .int .i64 r.2.2.2] ∧ bo = [] ∧ so = [.s (.slice oa0 r.1.length ok0) 3 1 r.1.length oc0] ∧ OL (Rep.int .i64) G oc0 r.1) := by
 unfold fence_Probe at h
 try dsimp only at h
 refine RetS.of (vs := [_, _]) Try.func22 rfl Try.ntmps22 [(0, _), (1, _)] ⟨rfl, rfl, trivial⟩ rfl hG fun w0 S0 hS0 B0 => ?_
 refine Cov.marks0 ?_;refine Cov.seq ?_;refine Cov.region rfl ?_
 refine Cov.box [_, _] .ro rfl rfl rfl (fun b1 hb1 => ?_)
 refine Cov.box [_] .ro rfl rfl rfl (fun b2 hb2 => ?_)
 refine Cov.q .ro (.assign rfl) rfl ?_;refine Cov.q .ro (.assign rfl) rfl ?_;refine Cov.q .ro (.assign rfl) rfl ?_;refine Cov.q .ro (.assign rfl) rfl ?_;refine Cov.region_end ?_;refine Cov.seq ?_;refine Cov.seq ?_;refine Cov.region rfl ?_;refine Cov.q .ro (.load_own_a 1 [_, _] rfl rfl ty37 rfl) rfl ?_
 obtain ⟨u3, hu3, r4⟩ := bind_some h; clear h
 refine Cov.callS (b1 := []) (b2 := [_, _]) (s1 := []) [_] [] .ro rfl rfl Try.call44 rfl rfl (fence_Check_c (G := G) List.mem_cons_self s0_1 hu3) rfl (fun v6 bo so h5 => ?_)
 obtain ⟨rfl, rfl, rfl⟩ := h5
 refine Cov.same (bl' := [_, _]) (sl' := [_]) rfl rfl rfl ?_;refine Cov.q .ro (.assign rfl) rfl ?_;refine Cov.region_end ?_;refine Cov.seq ?_;refine Cov.region rfl ?_;refine Cov.q .ro (.move rfl) rfl ?_;refine Cov.q .ro (.neq rfl rfl) rfl ?_;refine Cov.region_end ?_
 refine Cov.cond_dec rfl (fun c7 => ?_) (fun c7 => ?_)
 ·have r8 := ifT r4 c7; clear r4
  refine Cov.seq ?_;refine Cov.region rfl ?_;refine Cov.q .ro (.move rfl) rfl ?_;refine Cov.q .ro (.assign rfl) rfl ?_;refine Cov.q .ro (.assign rfl) rfl ?_;refine Cov.q .ro (.assign rfl) rfl ?_;refine Cov.q .ro (.assign rfl) rfl ?_;refine Cov.region_end ?_;refine Cov.own_nil 3 1 ?_
  cases r8
  refine Cov.drop 2 0 [] _ rfl rfl ?_;refine Cov.pullS 1 rfl [_, _] rfl ?_
  refine Cov.out (.inr ⟨_, rfl⟩) rfl (Cov.unmarkAll _ _ ?_)
  refine Cov.outS (c := ⟨22, none⟩) [.tmp 4, .tmp 5, .tmp 6, .tmp 7] [_, _, _, _] Try.func22 Try.results22 ⟨RV.tmp rfl, RV.tmp rfl, RV.tmp rfl, RV.tmp rfl, trivial⟩ (fun _ h => List.mem_cons_of_mem _ h) ⟨none, 0, [], rfl, rfl, rfl, (OL.nil (Rp' := (Rep.int .i64)))⟩
 ·have r10 := ifF r4 c7; clear r4
  refine Cov.skip ?_;refine Cov.seq ?_;refine Cov.seq ?_;refine Cov.region rfl ?_;refine Cov.q .ro (.load_own 0 rfl rfl ty9 rfl) rfl ?_
  obtain ⟨u11, hu11, r12⟩ := bind_some r10; clear r10
  refine Cov.callS (b1 := []) (b2 := [_, _]) (s1 := []) [_] [] .ro rfl rfl Try.call45 rfl rfl (fence_proper_c (G := G) List.mem_cons_self  hu11) rfl (fun v14 bo so h13 => ?_)
  obtain ⟨rfl, rfl, rfl⟩ := h13
  refine Cov.same (bl' := [_, _]) (sl' := [_]) rfl rfl rfl ?_;refine Cov.q .ro (.not rfl) rfl ?_;refine Cov.region_end ?_;refine Cov.prune [(2, _), (3, _), (20, _)] ⟨rfl, rfl, rfl, trivial⟩ ?_
  refine Cov.cond rfl (fun c15 => ?_) (fun c15 => ?_)
  ·have r16 := ifT r12 c15; clear r12
   refine Cov.seq ?_;refine Cov.region rfl ?_;refine Cov.q .ro (.assign rfl) rfl ?_;refine Cov.q .ro (.assign rfl) rfl ?_;refine Cov.q .ro (.assign rfl) rfl ?_;refine Cov.q .ro (.assign rfl) rfl ?_;refine Cov.region_end ?_;refine Cov.own_nil 3 1 ?_
   cases r16
   refine Cov.drop 2 0 [] _ rfl rfl ?_;refine Cov.pullS 1 rfl [_, _] rfl ?_
   refine Cov.out (.inr ⟨_, rfl⟩) rfl (Cov.unmarkAll _ _ ?_)
   refine Cov.outS (c := ⟨22, none⟩) [.tmp 4, .tmp 5, .tmp 6, .tmp 7] [_, _, _, _] Try.func22 Try.results22 ⟨RV.tmp rfl, RV.tmp rfl, RV.tmp rfl, RV.tmp rfl, trivial⟩ (fun _ h => List.mem_cons_of_mem _ h) ⟨none, 0, [], rfl, rfl, rfl, (OL.nil (Rp' := (Rep.int .i64)))⟩
  ·have r18 := ifBF r12 c15; clear r12
   refine Cov.skip ?_;refine Cov.seq ?_;refine Cov.region rfl ?_
   refine Cov.alloc .ro ty3 rfl (fun b19 hb19 => ?_)
   refine Cov.store 0 [_] [_, _, _] .ro rfl rfl rfl ty3 rfl rfl rfl rfl ?_;refine Cov.region_end ?_;refine Cov.seq ?_;refine Cov.region rfl ?_
   refine Cov.alloc .ro ty39 rfl (fun b20 hb20 => ?_)
   refine Cov.region_end ?_;refine Cov.seq ?_;refine Cov.seq ?_;refine Cov.region rfl ?_;refine Cov.q .ro (.load_own_a 3 [_, _] rfl rfl ty37 rfl) rfl ?_
   obtain ⟨u21, hu21, r22⟩ := bind_some r18; clear r18
   refine Cov.callW (b1 := []) (b2 := [_, _, _, _]) (s1 := []) [_] [] .ro rfl rfl Try.call47 rfl rfl (fence_levels_c (G := G) List.mem_cons_self s0_1 hu21) rfl B0 (fun v24 bo so G25 e26 B27 h23 => ?_)
   obtain ⟨a30, k31, cs32, rfl, rfl, rfl, o33⟩ := h23
   refine Cov.same (bl' := [_, _, _, _]) (sl' := [_, _]) rfl rfl rfl ?_
   refine Cov.freezeR 0 rfl rfl o33 [_] rfl B27 (fun G34 e35 B36 s37 => ?_)
   obtain ⟨u39, hu39, r40⟩ := bind_some r22; clear r22
   refine Cov.callW (b1 := []) (b2 := [_, _, _, _]) (s1 := []) [_] [] .ro rfl rfl Try.call46 rfl rfl (slices_Backward_LLstringLstring_c (G := G34) List.mem_cons_self s37 hu39) rfl B36 (fun v42 bo so G43 e44 B45 h41 => ?_)
   obtain ⟨F47, c48, rfl, rfl, rfl, hc49, hi50⟩ := h41
   refine Cov.same (bl' := [_, _, _, _]) (sl' := [_]) rfl rfl rfl ?_;refine Cov.region_end ?_;refine Cov.cutBD (β := MK × List Int × Option Addr × Nat × List Value × Int) (fun y => mks y.1.1) (fun y => []) [(2, _), (3, _), (9, _), (10, _)] (fun y => G43 :: Fs) (fun y => [(b20, .cells #[.slice y.2.2.1 y.2.1.length y.2.2.2.1] 39 (0, 0)), (b19, .cells #[.int .i64 y.2.2.2.2.2] 3 (0, 0))]) [_, _] (fun y => [.g (marksG y.1), .s (.slice y.2.2.1 y.2.1.length y.2.2.2.1) 3 1 y.2.1.length y.2.2.2.2.1]) [] (fun y => OL (Rep.int .i64) G43 y.2.2.2.2.1 y.2.1 ∧ (fence_Probe_J1 x1 x0_1) y.2.1 y.2.2.2.2.2 = some r) ⟨rfl, rfl, rfl, rfl, trivial⟩ [2, 3] rfl [] rfl ?_ ?_
   ·intro y hI
    obtain ⟨mk171, v172, a173, k174, cs175, v178⟩ := y
    obtain ⟨o176, r180⟩ := hI
    try dsimp only at o176 r180
    refine Cov.prune [(2, _), (3, _), (9, _), (10, _)] ⟨rfl, rfl, rfl, rfl, trivial⟩ ?_;refine Cov.same (bl' := [(b20, .cells #[.slice a173 v172.length k174] 39 (0, 0)), (b19, .cells #[.int .i64 v178] 3 (0, 0)), _, _]) (sl' := [.g (marksG mk171), .s (.slice a173 v172.length k174) 3 1 v172.length cs175]) (Fs' := G43 :: Fs) rfl rfl rfl ?_
    unfold fence_Probe_J1 at r180
    try dsimp only at r180
    refine Cov.seq ?_;refine Cov.drawL (.q 0 (.q 1 (.q 2 (.q 3 (.q 4 (.q 5 (.q 6 (.q 7 (.q 8 (.q 9 (.q 10 (.q 11 (.q 12 .nil))))))))))))) [_, _, _, _] (by kernel_rfl) (by kernel_rfl) (pick_mem [0, 1, 2, 3] rfl) ?_;refine Cov.dq (.load_own 0 rfl rfl ty39 rfl) rfl ?_;refine Cov.dq (.load_own 1 rfl rfl ty3 rfl) rfl ?_;refine Cov.dq (.fieldAddr 1 rfl fl37_1 ty35.sz rfl) rfl ?_;refine Cov.dq (.load_own 3 rfl rfl ty35 rfl) rfl ?_;refine Cov.dq (.load_own 1 rfl rfl ty3 rfl) rfl ?_
    obtain ⟨u184, hu184, r185⟩ := bind_some r180; clear r180
    obtain ⟨c186, p187, h188⟩ := SlR.get (SlR.mono (HpLe.trans (HpLe.trans e26 e35) e44) s0_1) hu184
    obtain rfl := h188
    refine Cov.dq (.idxR (SlR.mono (HpLe.trans (HpLe.trans e26 e35) e44) s0_1) rfl rfl hu184 sl35 ty9.sz) rfl ?_;refine Cov.dq (.load_rp p187 List.mem_cons_self rfl ty9 rfl) rfl ?_;refine Cov.dq (.load_own 2 rfl rfl ty9 rfl) rfl ?_;refine Cov.dq (.eql_s rfl rfl) rfl ?_;refine Cov.dq (.assign rfl) rfl ?_;refine Cov.dq (.assign rfl) rfl ?_;refine Cov.dq (.assign rfl) rfl ?_;refine Cov.dq (.assign rfl) rfl ?_;refine Cov.draw_end ?_
    refine Cov.prune [(4, _), (5, _), (6, _), (7, _)] ⟨rfl, rfl, rfl, rfl, trivial⟩ ?_
    cases r185
    refine Cov.drop 4 0 [] _ rfl rfl ?_
    refine Cov.out (.inr ⟨_, rfl⟩) rfl (Cov.unmarkAll _ _ ?_)
    refine Cov.outS (c := ⟨22, none⟩) [.tmp 4, .tmp 5, .tmp 6, .tmp 7] [_, _, _, _] Try.func22 Try.results22 ⟨RV.tmp rfl, RV.tmp rfl, RV.tmp rfl, RV.tmp rfl, trivial⟩ (fun _ h => List.mem_cons_of_mem _ h) ⟨a173, k174, cs175, rfl, rfl, rfl, o176⟩
   ·intro hb189
    refine Cov.block ?_;refine Cov.own_nil 3 1 ?_;refine Cov.pull 3 rfl [_, _, _, _] rfl ?_;refine Cov.pull 3 rfl [_, _, _, _] rfl ?_;refine Cov.pull 3 rfl [_, _, _, _] rfl ?_;refine Cov.pull 3 rfl [_, _, _, _] rfl ?_
    refine Cov.rangeX (α := List Int × Option Addr × Nat × List Value × Int) (β := Unit) (fun y => []) (fun y => [(b20, .cells #[.slice y.2.1 y.1.length y.2.2.1] 39 (0, 0)), (b19, .cells #[.int .i64 y.2.2.2.2] 3 (0, 0)), (b2, .cells #[.string x1] 9 (0, 0)), (b1, .cells #[.int .i64 x0_0, .slice a0_1 x0_1.length k0_1] 37 (0, 0))]) (fun y => [.s (.slice y.2.1 y.1.length y.2.2.1) 3 1 y.1.length y.2.2.2.1]) (fun _ => []) (fun _ => []) (fun _ => []) (fun _ => .skip) (fun i y => OL (Rep.int .i64) G43 y.2.2.2.1 y.1 ∧ fence_Probe_L2 (fence_Probe_J1 x1 x0_1) x0_0 x1 (List.drop i u39) y.1 y.2.2.2.2 = some r) (fun _ => False) (([] : List Int), none, 0, [], 0)  c48 rfl rfl hc49 rfl (by simp) rfl rfl (hi50 _ G43 (HpLe.refl _) List.mem_cons_self) (fun _ _ hv => by obtain ⟨_, _, hv⟩ := hv; exact (Yr.len _ hv).trans rfl) (by kernel_rfl) ⟨(OL.nil (Rp' := (Rep.int .i64))), r40⟩ ?_ ?_ (fun _ _ h => h.elim)
    ·intro l261 tm262 D263 i264 y v265 hV266 hI w268 S269 hw270
     obtain ⟨v252, a253, k254, cs255, v258⟩ := y
     obtain ⟨o256, r260⟩ := hI
     try dsimp only at o256 r260
     obtain ⟨x271, h272, h273⟩ := hV266
     refine Cov.dup (G := G43) List.mem_cons_self ?_
     obtain ⟨_, _, rfl, h277, h278⟩ := h273
     obtain ⟨v279, rfl, h280⟩ := h277
     obtain ⟨rfl, _⟩ := List.cons.inj h280
     obtain ⟨v282, rfl, h283⟩ := h278
     obtain ⟨a274, k275, h284, s276⟩ := h283
     obtain ⟨rfl, _⟩ := List.cons.inj h284
     rw [drop_cons h272] at r260
     have r285 : fence_Probe_B2 (fence_Probe_J1 x1 x0_1) x0_0 x1 (fence_Probe_L2 (fence_Probe_J1 x1 x0_1) x0_0 x1 (List.drop (i264 + 1) u39)) x271 v252 v258 = some r := r260; clear r260; unfold fence_Probe_B2 at r285; try dsimp only at r285
     refine Cov.prune [(24, .int .i64 x271.1), (25, .slice a274 x271.2.length k275), (2, _), (3, _), (9, _), (10, _)] ⟨rfl, rfl, rfl, rfl, rfl, rfl, trivial⟩ ?_;refine Cov.same (bl' := [(b20, .cells #[.slice a253 v252.length k254] 39 (0, 0)), (b19, .cells #[.int .i64 v258] 3 (0, 0)), (b2, .cells #[.string x1] 9 (0, 0)), (b1, .cells #[.int .i64 x0_0, .slice a0_1 x0_1.length k0_1] 37 (0, 0)), _]) (sl' := [.s (.slice a253 v252.length k254) 3 1 v252.length cs255]) (Fs' := G43 :: (G43 :: Fs)) rfl rfl rfl ?_;refine Cov.region rfl ?_;refine Cov.q .ro (.assign rfl) rfl ?_;refine Cov.region_end ?_;refine Cov.beginRound 4 rfl rfl [_, _, _, _, _] rfl ?_;refine Cov.block ?_;refine Cov.seq ?_;refine Cov.region rfl ?_
     refine Cov.q .ro (.load_own 0 rfl rfl ty39 rfl) rfl ?_;refine Cov.q .ro (.load_own 1 rfl rfl ty3 rfl) rfl ?_
     refine Cov.lit [_] [(0, _)] .ro sl39 ty3 rfl rfl rfl rfl rfl rfl (fun b286 hb286 => ?_)
     have o287 : OL (Rep.int .i64) G43 [.int .i64 v258] ([v258] : List Int) := ((OL.cons rfl (Rep.intI .i64 v258) (OL.nil (Rp' := (Rep.int .i64)))) :)
     refine Cov.reval 28 (n' := ([v258] : List Int).length) rfl rfl ?_
     obtain ⟨u293, hu293, r294⟩ := bind_some r285; clear r285
     refine Cov.appO (Q := (Rep.int .i64)) 0 .ro sl39 ty3 rfl rfl rfl rfl rfl rfl o256 o287 rfl rfl rfl (Bd.fin List.mem_cons_self) hu293 rfl (fun a289 k290 cs291 o292 => ?_)
     refine Cov.store 0 [_] [_, _, _, _, _] .ro rfl rfl rfl ty39 rfl rfl rfl rfl ?_;refine Cov.region_end ?_;refine Cov.drawL (.q 0 (.q 1 (.q 2 (.q 3 (.q 4 (.q 5 (.q 6 (.q 7 (.q 9 (.e 8 1 (.e 10 1 (.q 11 (.e 12 2 .nil))))))))))))) [_, _, _, _, _] (by kernel_rfl) (by kernel_rfl) (pick_mem [0, 1, 2, 3, 4] rfl) ?_;refine Cov.dq (.load_own 1 rfl rfl ty3 rfl) rfl ?_;refine Cov.dq (.fieldAddr 0 rfl fl37_0 ty3.sz rfl) rfl ?_;refine Cov.dq (.load_own 3 rfl rfl ty3 rfl) rfl ?_;refine Cov.dq (.mulw rfl rfl) rfl ?_;refine Cov.dq (.move rfl) rfl ?_;refine Cov.dq (.fieldAddr 0 rfl fl37_0 ty3.sz rfl) rfl ?_
     refine Cov.dq (.load_own 3 rfl rfl ty3 rfl) rfl ?_;refine Cov.dq (.load_own 1 rfl rfl ty3 rfl) rfl ?_;refine Cov.dq (.load_own 2 rfl rfl ty9 rfl) rfl ?_
     obtain ⟨u296, hu296, r297⟩ := bind_some r294; clear r294
     refine Cov.callS (b1 := []) (b2 := [_, _, _, _, _]) (s1 := []) [_, _, _] [] .d1 rfl rfl Try.call49 rfl rfl (fence_blockOf_c (G := G43) List.mem_cons_self s276 hu296) rfl (fun v299 bo so h298 => ?_)
     obtain ⟨a300, k301, rfl, rfl, rfl, s302⟩ := h298
     refine Cov.same (bl' := [_, _, _, _, _]) (sl' := [_]) rfl rfl rfl ?_;refine Cov.clsL (HpLe.refl _) (pick_mem [0, 1, 2, 3, 4] rfl) ?_
     obtain ⟨u303, hu303, r304⟩ := bind_some r297; clear r297
     refine Cov.callS (b1 := []) (b2 := [_, _, _, _, _]) (s1 := []) [_, _] [] .d1 rfl rfl Try.call48 rfl rfl (fence_last_c (G := G43) List.mem_cons_self s302 hu303) rfl (fun v306 bo so h305 => ?_)
     obtain ⟨rfl, rfl, rfl⟩ := h305
     refine Cov.same (bl' := [_, _, _, _, _]) (sl' := [_]) rfl rfl rfl ?_;refine Cov.clsL (HpLe.refl _) (pick_mem [0, 1, 2, 3, 4] rfl) ?_;refine Cov.dq (.addw rfl rfl) rfl ?_;refine Cov.store 1 [_] [_, _, _, _, _] .d2 rfl rfl rfl ty3 rfl rfl rfl rfl ?_;refine Cov.draw_end ?_;refine Cov.prune [] trivial ?_;refine Cov.inBlock ?_
     refine Cov.round_endX (u293, a289, k290, cs291, (w64 ((w64 (v258 * x0_0)) + u303))) 4 rfl rfl ⟨o292, r304⟩ rfl rfl (fun F hF => List.mem_cons_of_mem _ hF) (by simp)
    ·intro q307 y hI hb308
     obtain ⟨v252, a253, k254, cs255, v258⟩ := y
     obtain ⟨o256, r260⟩ := hI
     try dsimp only at o256 r260
     refine Cov.prune [(2, _), (3, _), (9, _), (10, _)] ⟨rfl, rfl, rfl, rfl, trivial⟩ ?_;refine Cov.same (bl' := [(b20, .cells #[.slice a253 v252.length k254] 39 (0, 0)), (b19, .cells #[.int .i64 v258] 3 (0, 0)), (b2, .cells #[.string x1] 9 (0, 0)), (b1, .cells #[.int .i64 x0_0, .slice a0_1 x0_1.length k0_1] 37 (0, 0)), _]) (sl' := [.s (.slice a253 v252.length k254) 3 1 v252.length cs255, _]) (Fs' := G43 :: Fs) rfl rfl rfl ?_;refine Cov.pullS 1 rfl [_, _] rfl ?_
     refine Cov.mkmerge 4 rfl [_, _, _, _] rfl (fun mk309 => ?_)
     rw [List.drop_length] at r260; rw [fence_Probe_L2] at r260; try dsimp only at r260
     refine Cov.inBlock ?_
     refine Cov.prune _ ?_ (Cov.same rfl rfl rfl (hb189 (mk309, v252, a253, k254, cs255, v258) ⟨o256, r260⟩))
     exact ⟨rfl, rfl, rfl, rfl, trivial⟩
set_option maxHeartbeats 4000000 in
set_option maxRecDepth 100000 in
theorem lookup_Walk_c {Fs : List Hp} {G : Hp} {x0_0 : Int} {a0_1 : Option Addr} {k0_1 : Nat} {x0_1 : List ByteArray} {x1 : ByteArray} {r : ((List Int) × Int × Bool × Int)} (hG : G ∈ Fs) (s0_1 : SlR Rep.str G a0_1 k0_1 x0_1) (h : lookup_Walk (x0_0, x0_1) x1 = some r) : RetS Try.prog 11 #[.agg #[.int .i64 x0_0, .slice a0_1 x0_1.length k0_1], .string x1] Fs [] [] (fun v bo so => ∃ (oa0 : Option Addr) (ok0 : Nat) (oc0 : List Value), v = .tuple #[.slice oa0 r.1.length ok0, .int .i64 r.2.1, .bool r.2.2.1, .int .i64 r.2.2.2] ∧ bo = [] ∧ so = [.s (.slice oa0 r.1.length ok0) 3 1 r.1.length oc0] ∧ OL (Rep.int .i64) G oc0 r.1) := by
 unfold lookup_Walk at h
 try dsimp only at h
 refine RetS.of (vs := [_, _]) Try.func11 rfl Try.ntmps11 [(0, _), (1, _)] ⟨rfl, rfl, trivial⟩ rfl hG fun w0 S0 hS0 B0 => ?_
 refine Cov.seq ?_;refine Cov.region rfl ?_
 refine Cov.box [_, _] .ro rfl rfl rfl (fun b1 hb1 => ?_)
 refine Cov.q .ro (.assign rfl) rfl ?_;refine Cov.q .ro (.assign rfl) rfl ?_;refine Cov.q .ro (.assign rfl) rfl ?_;refine Cov.q .ro (.assign rfl) rfl ?_;refine Cov.region_end ?_;refine Cov.seq ?_;refine Cov.region rfl ?_;refine Cov.q .ro (.load_own_a 0 [_, _] rfl rfl ty37 rfl) rfl ?_;refine Cov.q .ro (.move rfl) rfl ?_
 obtain ⟨u2, hu2, r3⟩ := bind_some h; clear h
 refine Cov.callS (b1 := []) (b2 := [_]) (s1 := []) [_, _] [] .ro rfl rfl Try.call22 rfl rfl (fence_Probe_c (G := G) List.mem_cons_self s0_1 hu2) rfl (fun v5 bo so h4 => ?_)
 obtain ⟨a7, k8, cs9, rfl, rfl, rfl, o10⟩ := h4
 refine Cov.same (bl' := [_]) (sl' := [_]) rfl rfl rfl ?_;refine Cov.q .ro (.move rfl) rfl ?_;refine Cov.q .ro (.extract rfl rfl) rfl ?_;refine Cov.q .ro (.extract rfl rfl) rfl ?_;refine Cov.q .ro (.extract rfl rfl) rfl ?_;refine Cov.q .ro (.extract rfl rfl) rfl ?_;refine Cov.q .ro (.assign rfl) rfl ?_;refine Cov.q .ro (.assign rfl) rfl ?_;refine Cov.q .ro (.assign rfl) rfl ?_
 refine Cov.q .ro (.assign rfl) rfl ?_;refine Cov.region_end ?_;refine Cov.prune [(2, _), (8, _), (9, _), (10, _), (11, _)] ⟨rfl, rfl, rfl, rfl, rfl, trivial⟩ ?_;refine Cov.seq ?_;refine Cov.seq ?_;refine Cov.region rfl ?_;refine Cov.q .ro (.move rfl) rfl ?_;refine Cov.q .ro (.neq rfl rfl) rfl ?_;refine Cov.region_end ?_
 refine Cov.cond_dec rfl (fun c11 => ?_) (fun c11 => ?_)
 ·have r12 := ifT r3 c11; clear r3
  refine Cov.seq ?_;refine Cov.region rfl ?_;refine Cov.q .ro (.move rfl) rfl ?_;refine Cov.q .ro (.assign rfl) rfl ?_;refine Cov.q .ro (.assign rfl) rfl ?_;refine Cov.q .ro (.assign rfl) rfl ?_;refine Cov.q .ro (.assign rfl) rfl ?_;refine Cov.region_end ?_;refine Cov.own_nil 3 1 ?_
  cases r12
  refine Cov.drop 1 0 [] _ rfl rfl ?_;refine Cov.pullS 1 rfl [_, _] rfl ?_;refine Cov.drop 0 1 _ [_] rfl rfl ?_
  refine Cov.retS (c := ⟨11, none⟩) (.inr ⟨_, rfl⟩) [.tmp 4, .tmp 5, .tmp 6, .tmp 7] [_, _, _, _] rfl Try.func11 Try.results11 ⟨RV.tmp rfl, RV.tmp rfl, RV.tmp rfl, RV.tmp rfl, trivial⟩ (fun _ h => List.mem_cons_of_mem _ h) ⟨none, 0, [], rfl, rfl, rfl, (OL.nil (Rp' := (Rep.int .i64)))⟩
 ·have r14 := ifF r3 c11; clear r3
  refine Cov.skip ?_;refine Cov.seq ?_;refine Cov.region rfl ?_;refine Cov.q .ro (.load_own_a 0 [_, _] rfl rfl ty37 rfl) rfl ?_
  obtain ⟨u15, hu15, r16⟩ := bind_some r14; clear r14
  refine Cov.callS (b1 := []) (b2 := [_]) (s1 := []) [_] [] .ro rfl rfl Try.call13 rfl rfl (lookup_Rows_c (G := G) List.mem_cons_self s0_1 hu15) rfl (fun v18 bo so h17 => ?_)
  obtain ⟨a20, k21, cs22, rfl, rfl, rfl, o23⟩ := h17
  refine Cov.same (bl' := [_]) (sl' := [_, _]) rfl rfl rfl ?_;refine Cov.q .ro (.move rfl) rfl ?_;refine Cov.q .ro (.extract rfl rfl) rfl ?_;refine Cov.q .ro (.extract rfl rfl) rfl ?_;refine Cov.q .ro (.assign rfl) rfl ?_;refine Cov.q .ro (.assign rfl) rfl ?_;refine Cov.region_end ?_;refine Cov.seq ?_;refine Cov.seq ?_
  refine Cov.region rfl ?_;refine Cov.q .ro (.move rfl) rfl ?_;refine Cov.q .ro (.neq rfl rfl) rfl ?_;refine Cov.region_end ?_
  refine Cov.cond_dec rfl (fun c24 => ?_) (fun c24 => ?_)
  ·have r25 := ifT r16 c24; clear r16
   refine Cov.seq ?_;refine Cov.region rfl ?_;refine Cov.q .ro (.move rfl) rfl ?_;refine Cov.q .ro (.assign rfl) rfl ?_;refine Cov.q .ro (.assign rfl) rfl ?_;refine Cov.q .ro (.assign rfl) rfl ?_;refine Cov.q .ro (.assign rfl) rfl ?_;refine Cov.region_end ?_;refine Cov.prune [(4, _), (5, _), (6, _), (7, _)] ⟨rfl, rfl, rfl, rfl, trivial⟩ ?_
   refine Cov.own_nil 3 1 ?_
   cases r25
   refine Cov.drop 1 0 [] _ rfl rfl ?_;refine Cov.pullS 2 rfl [_, _, _] rfl ?_;refine Cov.pullS 2 rfl [_, _, _] rfl ?_;refine Cov.drop 0 2 _ [_] rfl rfl ?_
   refine Cov.retS (c := ⟨11, none⟩) (.inr ⟨_, rfl⟩) [.tmp 4, .tmp 5, .tmp 6, .tmp 7] [_, _, _, _] rfl Try.func11 Try.results11 ⟨RV.tmp rfl, RV.tmp rfl, RV.tmp rfl, RV.tmp rfl, trivial⟩ (fun _ h => List.mem_cons_of_mem _ h) ⟨none, 0, [], rfl, rfl, rfl, (OL.nil (Rp' := (Rep.int .i64)))⟩
  ·have r27 := ifF r16 c24; clear r16
   refine Cov.skip ?_;refine Cov.seq ?_;refine Cov.region rfl ?_;refine Cov.q .ro (.move rfl) rfl ?_
   refine Cov.freezeR 1 rfl rfl o10 [_] rfl B0 (fun G28 e29 B30 s31 => ?_)
   obtain ⟨u33, hu33, r34⟩ := bind_some r27; clear r27
   refine Cov.callS (b1 := []) (b2 := [_]) (s1 := []) [_] [] .ro rfl rfl Try.call23 rfl rfl (slices_Clone_Lintint_c (G := G28) List.mem_cons_self s31 hu33) rfl (fun v36 bo so h35 => ?_)
   obtain ⟨a38, k39, cs40, rfl, rfl, rfl, o41⟩ := h35
   refine Cov.same (bl' := [_]) (sl' := [_, _]) rfl rfl rfl ?_;refine Cov.q .ro (.assign rfl) rfl ?_;refine Cov.region_end ?_;refine Cov.prune [(9, _), (10, _), (12, _), (13, _)] ⟨rfl, rfl, rfl, rfl, trivial⟩ ?_;refine Cov.seq ?_;refine Cov.seq ?_;refine Cov.region rfl ?_;refine Cov.q .ro (.move rfl) rfl ?_;refine Cov.q .ro (.len_sl rfl rfl sl39) rfl ?_
   refine Cov.q .ro (.move rfl) rfl ?_;refine Cov.region_end ?_;refine Cov.block ?_
   refine Cov.freezeR 1 rfl rfl (OL.mono e29 o23) [_] rfl B30 (fun G72 e73 B74 s75 => ?_)
   refine Cov.loop2 (α := Nat × List Int × List Int × Option Addr × Nat × List Value) (fun y => [(13, .slice y.2.2.2.1 y.2.2.1.length y.2.2.2.2.1), (38, .int .i64 (y.1 : Int))]) [(9, _), (10, _), (12, _), (37, _)] (fun y => []) (fun y => []) [_] (fun y => [.s (.slice y.2.2.2.1 y.2.2.1.length y.2.2.2.2.1) 3 1 y.2.2.1.length y.2.2.2.2.2]) [] (fun y => OL (Rep.int .i64) G72 y.2.2.2.2.2 y.2.2.1 ∧ List.drop y.1 u33 = y.2.1 ∧ lookup_Walk_L1 u2.2.1 u2.2.2.1 u15.1 y.2.1 y.1 y.2.2.1 = some r) (fun y => y.2.1.length) (0, u33, u33, a38, k39, cs40) ⟨(OL.mono e73 o41), rfl, r34⟩ ⟨rfl, rfl, rfl, rfl, rfl, rfl, trivial⟩ rfl rfl rfl (fun y hI hb113 => ?_)
   obtain ⟨i103, w104, v106, a107, k108, cs109⟩ := y
   obtain ⟨o110, g105, r112⟩ := hI
   try dsimp only at o110 g105 r112
   refine Cov.prune [(13, .slice a107 v106.length k108), (38, .int .i64 (i103 : Int)), (9, _), (10, _), (12, _), (37, _)] ⟨rfl, rfl, rfl, rfl, rfl, rfl, trivial⟩ ?_;refine Cov.same (bl' := [_]) (sl' := [.s (.slice a107 v106.length k108) 3 1 v106.length cs109]) (Fs' := G72 :: Fs) rfl rfl rfl ?_
   cases w104 with
   | nil =>
    rw [lookup_Walk_L1] at r112; try dsimp only at r112
    refine Cov.seq ?_;refine Cov.region rfl ?_;refine Cov.q .ro (.lss rfl rfl) rfl ?_;refine Cov.region_end ?_;refine Cov.seq ?_
    refine Cov.cond_dec rfl (fun c => absurd c (drop_nil g105)) (fun _ => ?_)
    refine Cov.exit rfl ?_;refine Cov.seq ?_;refine Cov.region rfl ?_;refine Cov.q .ro (.move rfl) rfl ?_;refine Cov.q .ro (.move rfl) rfl ?_;refine Cov.q .ro (.move rfl) rfl ?_;refine Cov.q .ro (.assign rfl) rfl ?_;refine Cov.q .ro (.assign rfl) rfl ?_;refine Cov.q .ro (.assign rfl) rfl ?_
    refine Cov.q .ro (.assign rfl) rfl ?_;refine Cov.region_end ?_
    cases r112
    refine Cov.drop 1 0 [] _ rfl rfl ?_
    refine Cov.retS (c := ⟨11, none⟩) (.inr ⟨_, rfl⟩) [.tmp 4, .tmp 5, .tmp 6, .tmp 7] [_, _, _, _] rfl Try.func11 Try.results11 ⟨RV.tmp rfl, RV.tmp rfl, RV.tmp rfl, RV.tmp rfl, trivial⟩ (fun _ h => List.mem_cons_of_mem _ h) ⟨a107, k108, cs109, rfl, rfl, rfl, o110⟩
   | cons x121 xs122 =>
    have r120 : lookup_Walk_B1 u2.2.1 u2.2.2.1 u15.1 (lookup_Walk_L1 u2.2.1 u2.2.2.1 u15.1 xs122 (i103 + 1)) x121 i103 v106 = some r := r112; clear r112; unfold lookup_Walk_B1 at r120; try dsimp only at r120
    refine Cov.seq ?_;refine Cov.region rfl ?_;refine Cov.q .ro (.lss rfl rfl) rfl ?_;refine Cov.region_end ?_;refine Cov.seq ?_
    refine Cov.cond_dec rfl (fun _ => ?_) (fun c => absurd (drop_lt g105) c)
    refine Cov.skip ?_;refine Cov.seq ?_;refine Cov.block ?_;refine Cov.seq ?_;refine Cov.region rfl ?_;refine Cov.q .ro (.move rfl) rfl ?_;refine Cov.q .ro (.assign rfl) rfl ?_;refine Cov.region_end ?_;refine Cov.drawL (.q 0 (.q 1 (.q 4 (.q 5 (.q 6 (.q 7 (.e 2 1 (.e 3 1 (.q 8 (.e 9 2 (.e 10 2 .nil))))))))))) [_] (by kernel_rfl) (by kernel_rfl) (pick_mem [0] rfl) ?_
    refine Cov.dq (.move rfl) rfl ?_;refine Cov.dq (.move rfl) rfl ?_;refine Cov.dq (.move rfl) rfl ?_;refine Cov.dq (.move rfl) rfl ?_
    obtain ⟨u123, hu123, r124⟩ := bind_some r120; clear r120
    obtain ⟨c125, p126, h127⟩ := SlR.get s75 hu123
    obtain rfl := h127
    refine Cov.dq (.idxR s75 rfl rfl hu123 sl39 ty3.sz) rfl ?_;refine Cov.dq (.load_rp p126 List.mem_cons_self rfl ty3 rfl) rfl ?_
    obtain ⟨u128, hu128, r129⟩ := bind_some r124; clear r124
    obtain ⟨c130, p131, h132⟩ := OL.get o110 hu128
    obtain rfl := h132
    refine Cov.q .d1 (.idxO 0 rfl rfl rfl hu128 sl39 ty3.sz) rfl ?_;refine Cov.clsL (HpLe.refl _) (pick_mem [0] rfl) ?_;refine Cov.q .d1 (.loadO 0 0 rfl hu128 p131 rfl (.inl ⟨rfl, rfl⟩) ty3 rfl) rfl ?_;refine Cov.clsL (HpLe.refl _) (pick_mem [0] rfl) ?_;refine Cov.dq (.addw rfl rfl) rfl ?_
    obtain ⟨u133, hu133, r134⟩ := bind_some r129; clear r129
    obtain ⟨c135, p136, h137⟩ := OL.get o110 hu133
    obtain rfl := h137
    refine Cov.q .d2 (.idxO 0 rfl rfl rfl hu133 sl39 ty3.sz) rfl ?_
    obtain ⟨u138, hu138, r139⟩ := bind_some r134; clear r134
    refine Cov.storeR 0 0 (Q := (Rep.int .i64)) .d2 rfl rfl o110 hu138 rfl (.inl ⟨rfl, rfl⟩) rfl ty3 p136 ((Rep.intI .i64 (w64 (u128 + u123))) :) rfl rfl (fun cs140 hlcs140 o141 => ?_)
    refine Cov.reval 13 hlcs140 rfl ?_;refine Cov.reval 41 hlcs140 rfl ?_;refine Cov.draw_end ?_;refine Cov.prune [(13, _), (38, _), (9, _), (10, _), (12, _), (37, _)] ⟨rfl, rfl, rfl, rfl, rfl, rfl, trivial⟩ ?_;refine Cov.inBlock ?_;refine Cov.region rfl ?_;refine Cov.q .ro (.addw rfl rfl) rfl ?_;refine Cov.q .ro (.move rfl) rfl ?_;refine Cov.region_end ?_
    refine Cov.prune _ ?_ (Cov.same rfl rfl rfl (hb113 ((i103 + 1), xs122, u138, a107, k108, cs140) ⟨o141, (drop_succ g105), r139⟩ (Nat.lt_succ_self _)))
    exact ⟨rfl, (congrArg (fun z => some (Value.int .i64 z)) (idx_wrap (OL.len' o41) g105)), rfl, rfl, rfl, rfl, trivial⟩
set_option maxHeartbeats 4000000 in
set_option maxRecDepth 100000 in
theorem ref21_Steps_c {Fs : List Hp} {G : Hp} {x0 : Int} {x1 : Int} {r : (Int × Int)} (hG : G ∈ Fs)  (h : ref21_Steps x0 x1 = some r) : RetS Try.prog 12 #[.int .i64 x0, .int .i64 x1] Fs [] [] (fun v bo so => v = .tuple #[.int .i64 r.1, .int .i64 r.2] ∧ bo = [] ∧ so = []) := by
 unfold ref21_Steps at h
 try dsimp only at h
 refine RetS.of (vs := [_, _]) Try.func12 rfl Try.ntmps12 [(0, _), (1, _)] ⟨rfl, rfl, trivial⟩ rfl hG fun w0 S0 hS0 B0 => ?_
 refine Cov.seq ?_;refine Cov.region rfl ?_;refine Cov.q .ro (.assign rfl) rfl ?_;refine Cov.q .ro (.assign rfl) rfl ?_;refine Cov.region_end ?_;refine Cov.seq ?_;refine Cov.seq ?_;refine Cov.region rfl ?_;refine Cov.q .ro (.move rfl) rfl ?_
 refine Cov.q .ro (.lss rfl rfl) rfl ?_;refine Cov.q .ro (.move rfl) rfl ?_;refine Cov.cutR 3 (β := Unit) (fun y => [(12, .bool (decide ((x0 < 1) ∨ (256 < x0))))]) [(0, _), (1, _)] (fun y => G :: Fs) (fun y => []) [] (fun y => []) [] (fun y => True) ⟨rfl, rfl, trivial⟩ [] rfl [] rfl ?_ ?_
 ·rintro _ _
  refine Cov.prune [(12, .bool (decide ((x0 < 1) ∨ (256 < x0)))), (0, _), (1, _)] ⟨rfl, rfl, rfl, trivial⟩ ?_;refine Cov.same (bl' := []) (sl' := []) (Fs' := G :: Fs) rfl rfl rfl ?_;refine Cov.q .ro (.move rfl) rfl ?_;refine Cov.cutR 3 (β := Unit) (fun y => [(16, .bool (decide (((x0 < 1) ∨ (256 < x0)) ∨ (x1 < 2))))]) [(0, _), (1, _)] (fun y => G :: Fs) (fun y => []) [] (fun y => []) [] (fun y => True) ⟨rfl, rfl, trivial⟩ [] rfl [] rfl ?_ ?_
  ·rintro _ _
   refine Cov.prune [(16, .bool (decide (((x0 < 1) ∨ (256 < x0)) ∨ (x1 < 2)))), (0, _), (1, _)] ⟨rfl, rfl, rfl, trivial⟩ ?_;refine Cov.same (bl' := []) (sl' := []) (Fs' := G :: Fs) rfl rfl rfl ?_;refine Cov.q .ro (.move rfl) rfl ?_;refine Cov.cutR 3 (β := Unit) (fun y => [(20, .bool (decide ((((x0 < 1) ∨ (256 < x0)) ∨ (x1 < 2)) ∨ (8 < x1))))]) [(0, _), (1, _)] (fun y => G :: Fs) (fun y => []) [] (fun y => []) [] (fun y => True) ⟨rfl, rfl, trivial⟩ [] rfl [] rfl ?_ ?_
   ·rintro _ _
    refine Cov.prune [(20, .bool (decide ((((x0 < 1) ∨ (256 < x0)) ∨ (x1 < 2)) ∨ (8 < x1)))), (0, _), (1, _)] ⟨rfl, rfl, rfl, trivial⟩ ?_;refine Cov.same (bl' := []) (sl' := []) (Fs' := G :: Fs) rfl rfl rfl ?_;refine Cov.region_end ?_
    refine Cov.cond_dec rfl (fun c13 => ?_) (fun c13 => ?_)
    ·have r14 := ifT h c13; clear h
     refine Cov.seq ?_;refine Cov.region rfl ?_;refine Cov.q .ro (.assign rfl) rfl ?_;refine Cov.q .ro (.assign rfl) rfl ?_;refine Cov.region_end ?_
     cases r14
     refine Cov.retS (c := ⟨12, none⟩) (.inr ⟨_, rfl⟩) [.tmp 4, .tmp 5] [_, _] rfl Try.func12 Try.results12 ⟨RV.tmp rfl, RV.tmp rfl, trivial⟩ (fun _ h => List.mem_cons_of_mem _ h) ⟨rfl, rfl, rfl⟩
    ·have r15 := ifF h c13; clear h
     refine Cov.skip ?_;refine Cov.seq ?_;refine Cov.region rfl ?_;refine Cov.q .ro (.assign rfl) rfl ?_;refine Cov.region_end ?_;refine Cov.seq ?_;refine Cov.block ?_
     refine Cov.loop2 (α := Nat × Int × Int) (fun y => [(0, .int .i64 y.2.1), (6, .int .i64 y.2.2)]) [(1, _)] (fun y => []) (fun y => []) [] (fun y => []) [] (fun y => ref21_Steps_L1 x1 y.1 y.2.1 y.2.2 = some r) (fun y => y.1) (big, x0, 1) r15 ⟨rfl, rfl, rfl, trivial⟩ rfl rfl rfl (fun y hI hb29 => ?_)
     obtain ⟨n24, v26, v27⟩ := y
     have r28 := hI; clear hI
     try dsimp only at r28
     refine Cov.prune [(0, .int .i64 v26), (6, .int .i64 v27), (1, _)] ⟨rfl, rfl, rfl, trivial⟩ ?_;refine Cov.same (bl' := []) (sl' := []) (Fs' := G :: Fs) rfl rfl rfl ?_
     obtain ⟨m32, rfl⟩ : ∃ m, n24 = m + 1 := by cases n24 with | zero => exact absurd (show (none : Option _) = some _ from r28) (by simp) | succ m => exact ⟨m, rfl⟩
     have r31 : ref21_Steps_B1 x1 (ref21_Steps_L1 x1 m32) v26 v27 = some r := r28; clear r28; unfold ref21_Steps_B1 at r31; try dsimp only at r31
     refine Cov.seq ?_;refine Cov.seq ?_;refine Cov.region rfl ?_;refine Cov.q .ro (.move rfl) rfl ?_;refine Cov.q .ro (.move rfl) rfl ?_;refine Cov.q .ro (.gtr rfl rfl) rfl ?_;refine Cov.region_end ?_
     refine Cov.cond_dec rfl (fun c33 => ?_) (fun c33 => ?_)
     ·have r34 := ifT r31 c33; clear r31
      refine Cov.skip ?_;refine Cov.seq ?_;refine Cov.block ?_;refine Cov.region rfl ?_;refine Cov.q .ro (.move rfl) rfl ?_;refine Cov.q .ro (.addw rfl rfl) rfl ?_;refine Cov.q .ro (.assign rfl) rfl ?_;refine Cov.region_end ?_;refine Cov.inBlock ?_
      refine Cov.region rfl ?_;refine Cov.q .ro (.move rfl) rfl ?_;refine Cov.q .ro (.move rfl) rfl ?_;refine Cov.q .ro (.addw rfl rfl) rfl ?_;refine Cov.q .ro (.subw rfl rfl) rfl ?_;refine Cov.q .ro (.move rfl) rfl ?_
      obtain ⟨u35, hu35, r36⟩ := bind_some r34; clear r34
      refine Cov.q .ro (.quow rfl rfl (nz_some hu35)) rfl ?_;refine Cov.q .ro (.assign rfl) rfl ?_;refine Cov.region_end ?_
      refine Cov.prune _ ?_ (Cov.same rfl rfl rfl (hb29 (m32, (w64 (Int.tdiv (w64 ((w64 (v26 + x1)) - 1)) x1)), (w64 (v27 + 1))) r36 (Nat.lt_succ_self _)))
      exact ⟨rfl, rfl, rfl, trivial⟩
     ·have r37 := ifF r31 c33; clear r31
      refine Cov.exit rfl ?_;refine Cov.seq ?_;refine Cov.region rfl ?_;refine Cov.q .ro (.move rfl) rfl ?_;refine Cov.q .ro (.assign rfl) rfl ?_;refine Cov.q .ro (.assign rfl) rfl ?_;refine Cov.region_end ?_
      cases r37
      refine Cov.retS (c := ⟨12, none⟩) (.inr ⟨_, rfl⟩) [.tmp 4, .tmp 5] [_, _] rfl Try.func12 Try.results12 ⟨RV.tmp rfl, RV.tmp rfl, trivial⟩ (fun _ h => List.mem_cons_of_mem _ h) ⟨rfl, rfl, rfl⟩
   ·intro hb10
    refine Cov.split 17 rfl (fun c9 => ?_) (fun c9 => ?_)
    ·refine Cov.g_off rfl rfl rfl ?_
     refine Cov.g_off rfl rfl rfl ?_;refine Cov.q .ro (.pick_t rfl rfl) rfl ?_
     refine Cov.prune _ ?_ (Cov.same rfl rfl rfl (hb10 () trivial))
     exact ⟨dor_t c9, rfl, rfl, trivial⟩
    ·refine Cov.g_on rfl ?_
     refine Cov.q .ro (.move rfl) rfl ?_;refine Cov.g_on rfl ?_;refine Cov.q .ro (.gtr rfl rfl) rfl ?_;refine Cov.q .ro (.pick_f rfl rfl) rfl ?_
     refine Cov.prune _ ?_ (Cov.same rfl rfl rfl (hb10 () trivial))
     exact ⟨dor_f c9, rfl, rfl, trivial⟩
  ·intro hb6
   refine Cov.split 13 rfl (fun c5 => ?_) (fun c5 => ?_)
   ·refine Cov.g_off rfl rfl rfl ?_
    refine Cov.g_off rfl rfl rfl ?_;refine Cov.q .ro (.pick_t rfl rfl) rfl ?_
    refine Cov.prune _ ?_ (Cov.same rfl rfl rfl (hb6 () trivial))
    exact ⟨dor_t c5, rfl, rfl, trivial⟩
   ·refine Cov.g_on rfl ?_
    refine Cov.q .ro (.move rfl) rfl ?_;refine Cov.g_on rfl ?_;refine Cov.q .ro (.lss rfl rfl) rfl ?_;refine Cov.q .ro (.pick_f rfl rfl) rfl ?_
    refine Cov.prune _ ?_ (Cov.same rfl rfl rfl (hb6 () trivial))
    exact ⟨dor_f c5, rfl, rfl, trivial⟩
 ·intro hb2
  refine Cov.split 9 rfl (fun c1 => ?_) (fun c1 => ?_)
  ·refine Cov.g_off rfl rfl rfl ?_
   refine Cov.g_off rfl rfl rfl ?_;refine Cov.q .ro (.pick_t rfl rfl) rfl ?_
   refine Cov.prune _ ?_ (Cov.same rfl rfl rfl (hb2 () trivial))
   exact ⟨dor_t c1, rfl, rfl, trivial⟩
  ·refine Cov.g_on rfl ?_
   refine Cov.q .ro (.move rfl) rfl ?_;refine Cov.g_on rfl ?_;refine Cov.q .ro (.gtr rfl rfl) rfl ?_;refine Cov.q .ro (.pick_f rfl rfl) rfl ?_
   refine Cov.prune _ ?_ (Cov.same rfl rfl rfl (hb2 () trivial))
   exact ⟨dor_f c1, rfl, rfl, trivial⟩
end Go.Proofs.Ytmfppphlhgneeaa
end

section
namespace Go.Proofs.Ytmfppphlhgneeaa
open Go.RowKit
set_option linter.unusedSimpArgs false
set_option linter.unusedVariables false
set_option synthInstance.maxSize 2000
set_option synthInstance.maxHeartbeats 400000
set_option maxHeartbeats 4000000 in
set_option maxRecDepth 100000 in
theorem law35_LookupEven_c {Fs : List Hp} {G : Hp} {a0 : Option Addr} {k0 : Nat} {x0 : List Int} {x1 : ByteArray} {x2 : ByteArray} {r : Bool} (hG : G ∈ Fs) (s0 : SlR (Rep.int .u8) G a0 k0 x0) (h : law35_LookupEven x0 x1 x2 = some r) : RetS Try.prog 3 #[.slice a0 x0.length k0, .string x1, .string x2] Fs [] [] (fun v bo so => v = .bool r ∧ bo = [] ∧ so = []) := by
 unfold law35_LookupEven at h
 try dsimp only at h
 refine RetS.of (vs := [_, _, _]) Try.func3 rfl Try.ntmps3 [(0, _), (1, _), (2, _)] ⟨rfl, rfl, rfl, trivial⟩ rfl hG fun w0 S0 hS0 B0 => ?_
 refine Cov.seq ?_;refine Cov.region rfl ?_;refine Cov.q .ro (.assign rfl) rfl ?_;refine Cov.region_end ?_;refine Cov.seq ?_;refine Cov.seq ?_;refine Cov.region rfl ?_
 obtain ⟨u1, hu1, r2⟩ := bind_some h; clear h
 refine Cov.callS (b1 := []) (b2 := []) (s1 := []) [] [] .ro rfl rfl Try.call6 rfl rfl (law35_sane_c (G := G) List.mem_cons_self  hu1) rfl (fun v4 bo so h3 => ?_)
 obtain ⟨rfl, rfl, rfl⟩ := h3
 refine Cov.same (bl' := []) (sl' := []) rfl rfl rfl ?_;refine Cov.q .ro (.not rfl) rfl ?_;refine Cov.region_end ?_
 refine Cov.cond rfl (fun c5 => ?_) (fun c5 => ?_)
 ·have r6 := ifT r2 c5; clear r2
  refine Cov.seq ?_;refine Cov.region rfl ?_;refine Cov.q .ro (.assign rfl) rfl ?_;refine Cov.region_end ?_
  cases r6
  refine Cov.retS (c := ⟨3, none⟩) (.inr ⟨_, rfl⟩) [.tmp 6] [_] rfl Try.func3 Try.results3 ⟨RV.tmp rfl, trivial⟩ (fun _ h => List.mem_cons_of_mem _ h) ⟨rfl, rfl, rfl⟩
 ·have r7 := ifBF r2 c5; clear r2
  refine Cov.skip ?_;refine Cov.seq ?_;refine Cov.seq ?_;refine Cov.region rfl ?_;refine Cov.q .ro (.move rfl) rfl ?_;refine Cov.q .ro (.len_s rfl Try.underlying9) rfl ?_;refine Cov.q .ro (.lss rfl rfl) rfl ?_;refine Cov.q .ro (.move rfl) rfl ?_;refine Cov.cutR 4 (β := Unit) (fun y => [(36, .bool (decide (((x1.size : Int) < 1) ∨ (32 < (x1.size : Int)))))]) [(0, _), (1, _), (2, _)] (fun y => G :: Fs) (fun y => []) [] (fun y => []) [] (fun y => True) ⟨rfl, rfl, rfl, trivial⟩ [] rfl [] rfl ?_ ?_
  ·rintro _ _
   refine Cov.prune [(36, .bool (decide (((x1.size : Int) < 1) ∨ (32 < (x1.size : Int))))), (0, _), (1, _), (2, _)] ⟨rfl, rfl, rfl, rfl, trivial⟩ ?_;refine Cov.same (bl' := []) (sl' := []) (Fs' := G :: Fs) rfl rfl rfl ?_;refine Cov.q .ro (.move rfl) rfl ?_;refine Cov.cutR 4 (β := Unit) (fun y => [(41, .bool (decide ((((x1.size : Int) < 1) ∨ (32 < (x1.size : Int))) ∨ ((x2.size : Int) < 1))))]) [(0, _), (1, _), (2, _)] (fun y => G :: Fs) (fun y => []) [] (fun y => []) [] (fun y => True) ⟨rfl, rfl, rfl, trivial⟩ [] rfl [] rfl ?_ ?_
   ·rintro _ _
    refine Cov.prune [(41, .bool (decide ((((x1.size : Int) < 1) ∨ (32 < (x1.size : Int))) ∨ ((x2.size : Int) < 1)))), (0, _), (1, _), (2, _)] ⟨rfl, rfl, rfl, rfl, trivial⟩ ?_;refine Cov.same (bl' := []) (sl' := []) (Fs' := G :: Fs) rfl rfl rfl ?_;refine Cov.q .ro (.move rfl) rfl ?_;refine Cov.cutR 4 (β := Unit) (fun y => [(46, .bool (decide (((((x1.size : Int) < 1) ∨ (32 < (x1.size : Int))) ∨ ((x2.size : Int) < 1)) ∨ (32 < (x2.size : Int)))))]) [(0, _), (1, _), (2, _)] (fun y => G :: Fs) (fun y => []) [] (fun y => []) [] (fun y => True) ⟨rfl, rfl, rfl, trivial⟩ [] rfl [] rfl ?_ ?_
    ·rintro _ _
     refine Cov.prune [(46, .bool (decide (((((x1.size : Int) < 1) ∨ (32 < (x1.size : Int))) ∨ ((x2.size : Int) < 1)) ∨ (32 < (x2.size : Int))))), (0, _), (1, _), (2, _)] ⟨rfl, rfl, rfl, rfl, trivial⟩ ?_;refine Cov.same (bl' := []) (sl' := []) (Fs' := G :: Fs) rfl rfl rfl ?_;refine Cov.region_end ?_
     refine Cov.cond_dec rfl (fun c20 => ?_) (fun c20 => ?_)
     ·have r21 := ifT r7 c20; clear r7
      refine Cov.seq ?_;refine Cov.region rfl ?_;refine Cov.q .ro (.assign rfl) rfl ?_;refine Cov.region_end ?_
      cases r21
      refine Cov.retS (c := ⟨3, none⟩) (.inr ⟨_, rfl⟩) [.tmp 6] [_] rfl Try.func3 Try.results3 ⟨RV.tmp rfl, trivial⟩ (fun _ h => List.mem_cons_of_mem _ h) ⟨rfl, rfl, rfl⟩
     ·have r22 := ifF r7 c20; clear r7
      refine Cov.skip ?_;refine Cov.seq ?_;refine Cov.region rfl ?_;refine Cov.q .ro (.move rfl) rfl ?_
      obtain ⟨u23, hu23, r24⟩ := bind_some r22; clear r22
      refine Cov.callS (b1 := []) (b2 := []) (s1 := []) [_] [] .ro rfl rfl Try.call7 rfl rfl (play_New_c (G := G) List.mem_cons_self s0 hu23) rfl (fun v26 bo so h25 => ?_)
      obtain ⟨a28, k29, b27, rfl, rfl, rfl, s30⟩ := h25
      refine Cov.same (bl' := [_]) (sl' := []) rfl rfl rfl ?_;refine Cov.q .ro (.assign rfl) rfl ?_;refine Cov.region_end ?_;refine Cov.seq ?_;refine Cov.region rfl ?_;refine Cov.q .ro (.move rfl) rfl ?_
      obtain ⟨u31, hu31, r32⟩ := bind_some r24; clear r24
      refine Cov.callW (b1 := [_]) (b2 := []) (s1 := []) [_] [] .ro rfl rfl Try.call8 rfl rfl (law35_directory_c (G := G) List.mem_cons_self s30 hu31) rfl B0 (fun v34 bo so G35 e36 B37 h33 => ?_)
      obtain ⟨a39, k40, a42, k43, a45, k46, a48, k49, rfl, rfl, rfl, s41, s44, s47, s50⟩ := h33
      refine Cov.same (bl' := [_]) (sl' := []) rfl rfl rfl ?_;refine Cov.q .ro (.move rfl) rfl ?_;refine Cov.q .ro (.extract rfl rfl) rfl ?_;refine Cov.q .ro (.extract rfl rfl) rfl ?_
      refine Cov.alloc .ro ty31 rfl (fun b51 hb51 => ?_)
      refine Cov.store 0 [_, _, _, _] [_, _] .ro rfl rfl rfl ty31 rfl rfl rfl rfl ?_;refine Cov.q .ro (.assign rfl) rfl ?_;refine Cov.region_end ?_;refine Cov.seq ?_;refine Cov.region rfl ?_;refine Cov.q .ro (.move rfl) rfl ?_
      obtain ⟨u52, hu52, r53⟩ := bind_some r32; clear r32
      refine Cov.pull 1 rfl [_, _] rfl ?_
      refine Cov.callW (b1 := [_]) (b2 := [_]) (s1 := []) [_] [] .ro rfl rfl Try.call9 rfl rfl (law35_fence_c (G := G35) List.mem_cons_self s50 hu52) rfl B37 (fun v55 bo so G56 e57 B58 h54 => ?_)
      obtain ⟨a60, k61, a63, k64, rfl, rfl, rfl, s62, s65⟩ := h54
      refine Cov.same (bl' := [_, _]) (sl' := []) rfl rfl rfl ?_
      refine Cov.alloc .ro ty37 rfl (fun b66 hb66 => ?_)
      refine Cov.store 0 [_, _] [_, _, _] .ro rfl rfl rfl ty37 rfl rfl rfl rfl ?_;refine Cov.region_end ?_;refine Cov.prune [(1, _), (2, _), (8, _), (10, _)] ⟨rfl, rfl, rfl, rfl, trivial⟩ ?_;refine Cov.seq ?_;refine Cov.region rfl ?_;refine Cov.q .ro (.fieldAddr 0 rfl fl31_0 ty28.sz rfl) rfl ?_;refine Cov.q .ro (.load_own_a 2 [_, _] rfl rfl ty28 rfl) rfl ?_;refine Cov.q .ro (.move rfl) rfl ?_
      obtain ⟨u67, hu67, r68⟩ := bind_some r53; clear r53
      refine Cov.callS (b1 := []) (b2 := [_, _, _]) (s1 := []) [_, _] [] .ro rfl rfl Try.call10 rfl rfl (lookup_Wish_c (G := G56) List.mem_cons_self (SlR.mono e57 s41) hu67) rfl (fun v70 bo so h69 => ?_)
      obtain ⟨a72, k73, cs74, rfl, rfl, rfl, o75⟩ := h69
      refine Cov.same (bl' := [_, _, _]) (sl' := [_]) rfl rfl rfl ?_;refine Cov.q .ro (.move rfl) rfl ?_;refine Cov.q .ro (.extract rfl rfl) rfl ?_;refine Cov.q .ro (.extract rfl rfl) rfl ?_;refine Cov.q .ro (.assign rfl) rfl ?_;refine Cov.q .ro (.assign rfl) rfl ?_;refine Cov.region_end ?_;refine Cov.seq ?_;refine Cov.region rfl ?_
      refine Cov.q .ro (.fieldAddr 0 rfl fl31_0 ty28.sz rfl) rfl ?_;refine Cov.q .ro (.load_own_a 2 [_, _] rfl rfl ty28 rfl) rfl ?_;refine Cov.q .ro (.move rfl) rfl ?_
      obtain ⟨u76, hu76, r77⟩ := bind_some r68; clear r68
      refine Cov.callS (b1 := []) (b2 := [_, _, _]) (s1 := []) [_, _] [] .ro rfl rfl Try.call10 rfl rfl (lookup_Wish_c (G := G56) List.mem_cons_self (SlR.mono e57 s41) hu76) rfl (fun v79 bo so h78 => ?_)
      obtain ⟨a81, k82, cs83, rfl, rfl, rfl, o84⟩ := h78
      refine Cov.same (bl' := [_, _, _]) (sl' := [_, _]) rfl rfl rfl ?_;refine Cov.q .ro (.move rfl) rfl ?_;refine Cov.q .ro (.extract rfl rfl) rfl ?_;refine Cov.q .ro (.extract rfl rfl) rfl ?_;refine Cov.q .ro (.assign rfl) rfl ?_;refine Cov.q .ro (.assign rfl) rfl ?_;refine Cov.region_end ?_;refine Cov.prune [(1, _), (2, _), (8, _), (10, _), (11, _), (12, _), (13, _), (14, _)] ⟨rfl, rfl, rfl, rfl, rfl, rfl, rfl, rfl, trivial⟩ ?_;refine Cov.seq ?_
      refine Cov.region rfl ?_;refine Cov.q .ro (.load_own_a 0 [_, _] rfl rfl ty37 rfl) rfl ?_;refine Cov.q .ro (.move rfl) rfl ?_
      obtain ⟨u85, hu85, r86⟩ := bind_some r77; clear r77
      refine Cov.callS (b1 := []) (b2 := [_, _, _]) (s1 := []) [_, _] [] .ro rfl rfl Try.call11 rfl rfl (lookup_Walk_c (G := G56) List.mem_cons_self s62 hu85) rfl (fun v88 bo so h87 => ?_)
      obtain ⟨a90, k91, cs92, rfl, rfl, rfl, o93⟩ := h87
      refine Cov.same (bl' := [_, _, _]) (sl' := [_, _, _]) rfl rfl rfl ?_;refine Cov.q .ro (.move rfl) rfl ?_;refine Cov.q .ro (.extract rfl rfl) rfl ?_;refine Cov.q .ro (.extract rfl rfl) rfl ?_;refine Cov.q .ro (.extract rfl rfl) rfl ?_;refine Cov.q .ro (.extract rfl rfl) rfl ?_;refine Cov.q .ro (.assign rfl) rfl ?_;refine Cov.q .ro (.assign rfl) rfl ?_;refine Cov.q .ro (.assign rfl) rfl ?_
      refine Cov.q .ro (.assign rfl) rfl ?_;refine Cov.region_end ?_;refine Cov.seq ?_;refine Cov.region rfl ?_;refine Cov.q .ro (.load_own_a 0 [_, _] rfl rfl ty37 rfl) rfl ?_;refine Cov.q .ro (.move rfl) rfl ?_
      obtain ⟨u94, hu94, r95⟩ := bind_some r86; clear r86
      refine Cov.callS (b1 := []) (b2 := [_, _, _]) (s1 := []) [_, _] [] .ro rfl rfl Try.call11 rfl rfl (lookup_Walk_c (G := G56) List.mem_cons_self s62 hu94) rfl (fun v97 bo so h96 => ?_)
      obtain ⟨a99, k100, cs101, rfl, rfl, rfl, o102⟩ := h96
      refine Cov.same (bl' := [_, _, _]) (sl' := [_, _, _, _]) rfl rfl rfl ?_;refine Cov.q .ro (.move rfl) rfl ?_;refine Cov.q .ro (.extract rfl rfl) rfl ?_;refine Cov.q .ro (.extract rfl rfl) rfl ?_;refine Cov.q .ro (.extract rfl rfl) rfl ?_;refine Cov.q .ro (.extract rfl rfl) rfl ?_;refine Cov.q .ro (.assign rfl) rfl ?_;refine Cov.q .ro (.assign rfl) rfl ?_;refine Cov.q .ro (.assign rfl) rfl ?_
      refine Cov.q .ro (.assign rfl) rfl ?_;refine Cov.region_end ?_;refine Cov.prune [(8, _), (10, _), (11, _), (12, _), (13, _), (14, _), (15, _), (18, _), (19, _), (22, _)] ⟨rfl, rfl, rfl, rfl, rfl, rfl, rfl, rfl, rfl, rfl, trivial⟩ ?_;refine Cov.seq ?_;refine Cov.region rfl ?_;refine Cov.q .ro (.fieldAddr 1 rfl fl37_1 ty35.sz rfl) rfl ?_;refine Cov.q .ro (.load_own 0 rfl rfl ty35 rfl) rfl ?_;refine Cov.q .ro (.len_sl rfl rfl sl35) rfl ?_;refine Cov.q .ro (.fieldAddr 0 rfl fl37_0 ty3.sz rfl) rfl ?_
      refine Cov.q .ro (.load_own 0 rfl rfl ty3 rfl) rfl ?_
      obtain ⟨u103, hu103, r104⟩ := bind_some r95; clear r95
      refine Cov.callS (b1 := []) (b2 := [_, _, _]) (s1 := []) [_, _] [] .ro rfl rfl Try.call12 rfl rfl (ref21_Steps_c (G := G56) List.mem_cons_self  hu103) rfl (fun v106 bo so h105 => ?_)
      obtain ⟨rfl, rfl, rfl⟩ := h105
      refine Cov.same (bl' := [_, _, _]) (sl' := [_, _, _, _]) rfl rfl rfl ?_;refine Cov.q .ro (.move rfl) rfl ?_;refine Cov.q .ro (.extract rfl rfl) rfl ?_;refine Cov.q .ro (.extract rfl rfl) rfl ?_;refine Cov.q .ro (.assign rfl) rfl ?_;refine Cov.q .ro (.assign rfl) rfl ?_;refine Cov.region_end ?_;refine Cov.seq ?_;refine Cov.seq ?_
      refine Cov.region rfl ?_;refine Cov.q .ro (.move rfl) rfl ?_;refine Cov.q .ro (.neq rfl rfl) rfl ?_;refine Cov.q .ro (.move rfl) rfl ?_;refine Cov.cutR 3 (β := Unit) (fun y => [(100, .bool (decide ((u67.2 ≠ 0) ∨ (u76.2 ≠ 0))))]) [(8, _), (11, _), (13, _), (15, _), (18, _), (19, _), (22, _), (23, _), (24, _)] (fun y => G56 :: Fs) (fun y => []) [_, _, _] (fun y => []) [_, _, _, _] (fun y => True) ⟨rfl, rfl, rfl, rfl, rfl, rfl, rfl, rfl, rfl, trivial⟩ [0, 1, 2] rfl [0, 1, 2, 3] rfl ?_ ?_
      ·rintro _ _
       refine Cov.prune [(100, .bool (decide ((u67.2 ≠ 0) ∨ (u76.2 ≠ 0)))), (8, _), (11, _), (13, _), (15, _), (18, _), (19, _), (22, _), (23, _), (24, _)] ⟨rfl, rfl, rfl, rfl, rfl, rfl, rfl, rfl, rfl, rfl, trivial⟩ ?_;refine Cov.same (bl' := [_, _, _]) (sl' := [_, _, _, _]) (Fs' := G56 :: Fs) rfl rfl rfl ?_;refine Cov.q .ro (.move rfl) rfl ?_;refine Cov.cutR 3 (β := Unit) (fun y => [(104, .bool (decide (((u67.2 ≠ 0) ∨ (u76.2 ≠ 0)) ∨ (u85.2.2.2 ≠ 0))))]) [(8, _), (11, _), (13, _), (15, _), (19, _), (22, _), (23, _), (24, _)] (fun y => G56 :: Fs) (fun y => []) [_, _, _] (fun y => []) [_, _, _, _] (fun y => True) ⟨rfl, rfl, rfl, rfl, rfl, rfl, rfl, rfl, trivial⟩ [0, 1, 2] rfl [0, 1, 2, 3] rfl ?_ ?_
       ·rintro _ _
        refine Cov.prune [(104, .bool (decide (((u67.2 ≠ 0) ∨ (u76.2 ≠ 0)) ∨ (u85.2.2.2 ≠ 0)))), (8, _), (11, _), (13, _), (15, _), (19, _), (22, _), (23, _), (24, _)] ⟨rfl, rfl, rfl, rfl, rfl, rfl, rfl, rfl, rfl, trivial⟩ ?_;refine Cov.same (bl' := [_, _, _]) (sl' := [_, _, _, _]) (Fs' := G56 :: Fs) rfl rfl rfl ?_;refine Cov.q .ro (.move rfl) rfl ?_;refine Cov.cutR 3 (β := Unit) (fun y => [(108, .bool (decide ((((u67.2 ≠ 0) ∨ (u76.2 ≠ 0)) ∨ (u85.2.2.2 ≠ 0)) ∨ (u94.2.2.2 ≠ 0))))]) [(8, _), (11, _), (13, _), (15, _), (19, _), (23, _), (24, _)] (fun y => G56 :: Fs) (fun y => []) [_, _, _] (fun y => []) [_, _, _, _] (fun y => True) ⟨rfl, rfl, rfl, rfl, rfl, rfl, rfl, trivial⟩ [0, 1, 2] rfl [0, 1, 2, 3] rfl ?_ ?_
        ·rintro _ _
         refine Cov.prune [(108, .bool (decide ((((u67.2 ≠ 0) ∨ (u76.2 ≠ 0)) ∨ (u85.2.2.2 ≠ 0)) ∨ (u94.2.2.2 ≠ 0)))), (8, _), (11, _), (13, _), (15, _), (19, _), (23, _), (24, _)] ⟨rfl, rfl, rfl, rfl, rfl, rfl, rfl, rfl, trivial⟩ ?_;refine Cov.same (bl' := [_, _, _]) (sl' := [_, _, _, _]) (Fs' := G56 :: Fs) rfl rfl rfl ?_;refine Cov.q .ro (.move rfl) rfl ?_;refine Cov.cutR 3 (β := Unit) (fun y => [(112, .bool (decide (((((u67.2 ≠ 0) ∨ (u76.2 ≠ 0)) ∨ (u85.2.2.2 ≠ 0)) ∨ (u94.2.2.2 ≠ 0)) ∨ (u103.2 ≠ 0))))]) [(8, _), (11, _), (13, _), (15, _), (19, _), (23, _)] (fun y => G56 :: Fs) (fun y => []) [_, _, _] (fun y => []) [_, _, _, _] (fun y => True) ⟨rfl, rfl, rfl, rfl, rfl, rfl, trivial⟩ [0, 1, 2] rfl [0, 1, 2, 3] rfl ?_ ?_
         ·rintro _ _
          refine Cov.prune [(112, .bool (decide (((((u67.2 ≠ 0) ∨ (u76.2 ≠ 0)) ∨ (u85.2.2.2 ≠ 0)) ∨ (u94.2.2.2 ≠ 0)) ∨ (u103.2 ≠ 0)))), (8, _), (11, _), (13, _), (15, _), (19, _), (23, _)] ⟨rfl, rfl, rfl, rfl, rfl, rfl, rfl, trivial⟩ ?_;refine Cov.same (bl' := [_, _, _]) (sl' := [_, _, _, _]) (Fs' := G56 :: Fs) rfl rfl rfl ?_;refine Cov.q .ro (.move rfl) rfl ?_;refine Cov.cutR 6 (β := Unit) (fun y => [(119, .bool (decide ((((((u67.2 ≠ 0) ∨ (u76.2 ≠ 0)) ∨ (u85.2.2.2 ≠ 0)) ∨ (u94.2.2.2 ≠ 0)) ∨ (u103.2 ≠ 0)) ∨ ((u67.1.length : Int) ≠ (u76.1.length : Int)))))]) [(8, _), (11, _), (13, _), (15, _), (19, _), (23, _)] (fun y => G56 :: Fs) (fun y => []) [_, _, _] (fun y => []) [_, _, _, _] (fun y => True) ⟨rfl, rfl, rfl, rfl, rfl, rfl, trivial⟩ [0, 1, 2] rfl [0, 1, 2, 3] rfl ?_ ?_
          ·rintro _ _
           refine Cov.prune [(119, .bool (decide ((((((u67.2 ≠ 0) ∨ (u76.2 ≠ 0)) ∨ (u85.2.2.2 ≠ 0)) ∨ (u94.2.2.2 ≠ 0)) ∨ (u103.2 ≠ 0)) ∨ ((u67.1.length : Int) ≠ (u76.1.length : Int))))), (8, _), (11, _), (13, _), (15, _), (19, _), (23, _)] ⟨rfl, rfl, rfl, rfl, rfl, rfl, rfl, trivial⟩ ?_;refine Cov.same (bl' := [_, _, _]) (sl' := [_, _, _, _]) (Fs' := G56 :: Fs) rfl rfl rfl ?_;refine Cov.q .ro (.move rfl) rfl ?_;refine Cov.cutR 6 (β := Unit) (fun y => [(126, .bool (decide (((((((u67.2 ≠ 0) ∨ (u76.2 ≠ 0)) ∨ (u85.2.2.2 ≠ 0)) ∨ (u94.2.2.2 ≠ 0)) ∨ (u103.2 ≠ 0)) ∨ ((u67.1.length : Int) ≠ (u76.1.length : Int))) ∨ ((u85.1.length : Int) ≠ (u94.1.length : Int)))))]) [(8, _), (11, _), (13, _), (15, _), (23, _)] (fun y => G56 :: Fs) (fun y => []) [_, _, _] (fun y => []) [_, _, _, _] (fun y => True) ⟨rfl, rfl, rfl, rfl, rfl, trivial⟩ [0, 1, 2] rfl [0, 1, 2, 3] rfl ?_ ?_
           ·rintro _ _
            refine Cov.prune [(126, .bool (decide (((((((u67.2 ≠ 0) ∨ (u76.2 ≠ 0)) ∨ (u85.2.2.2 ≠ 0)) ∨ (u94.2.2.2 ≠ 0)) ∨ (u103.2 ≠ 0)) ∨ ((u67.1.length : Int) ≠ (u76.1.length : Int))) ∨ ((u85.1.length : Int) ≠ (u94.1.length : Int))))), (8, _), (11, _), (13, _), (15, _), (23, _)] ⟨rfl, rfl, rfl, rfl, rfl, rfl, trivial⟩ ?_;refine Cov.same (bl' := [_, _, _]) (sl' := [_, _, _, _]) (Fs' := G56 :: Fs) rfl rfl rfl ?_;refine Cov.q .ro (.move rfl) rfl ?_;refine Cov.cutR 5 (β := Unit) (fun y => [(132, .bool (decide ((((((((u67.2 ≠ 0) ∨ (u76.2 ≠ 0)) ∨ (u85.2.2.2 ≠ 0)) ∨ (u94.2.2.2 ≠ 0)) ∨ (u103.2 ≠ 0)) ∨ ((u67.1.length : Int) ≠ (u76.1.length : Int))) ∨ ((u85.1.length : Int) ≠ (u94.1.length : Int))) ∨ ((u85.1.length : Int) ≠ u103.1))))]) [(8, _), (11, _), (13, _), (15, _)] (fun y => G56 :: Fs) (fun y => []) [_, _, _] (fun y => []) [_, _, _, _] (fun y => True) ⟨rfl, rfl, rfl, rfl, trivial⟩ [0, 1, 2] rfl [0, 1, 2, 3] rfl ?_ ?_
            ·rintro _ _
             refine Cov.prune [(132, .bool (decide ((((((((u67.2 ≠ 0) ∨ (u76.2 ≠ 0)) ∨ (u85.2.2.2 ≠ 0)) ∨ (u94.2.2.2 ≠ 0)) ∨ (u103.2 ≠ 0)) ∨ ((u67.1.length : Int) ≠ (u76.1.length : Int))) ∨ ((u85.1.length : Int) ≠ (u94.1.length : Int))) ∨ ((u85.1.length : Int) ≠ u103.1)))), (8, _), (11, _), (13, _), (15, _)] ⟨rfl, rfl, rfl, rfl, rfl, trivial⟩ ?_;refine Cov.same (bl' := [_, _, _]) (sl' := [_, _, _, _]) (Fs' := G56 :: Fs) rfl rfl rfl ?_;refine Cov.q .ro (.move rfl) rfl ?_
             obtain ⟨u142, h143, r144⟩ := bind_some r104; clear r104
             refine Cov.cutR 5 (β := Unit) (fun y => [(138, .bool u142)]) [(8, _), (11, _), (13, _)] (fun y => G56 :: Fs) (fun y => []) [_, _, _] (fun y => []) [_, _, _, _] (fun y => True) ⟨rfl, rfl, rfl, trivial⟩ [0, 1, 2] rfl [0, 1, 2, 3] rfl ?_ ?_
             ·rintro _ _
              refine Cov.prune [(138, .bool u142), (8, _), (11, _), (13, _)] ⟨rfl, rfl, rfl, rfl, trivial⟩ ?_;refine Cov.same (bl' := [_, _, _]) (sl' := [_, _, _, _]) (Fs' := G56 :: Fs) rfl rfl rfl ?_;refine Cov.region_end ?_
              refine Cov.cond rfl (fun c147 => ?_) (fun c147 => ?_)
              ·have r148 := ifT r144 c147; clear r144
               refine Cov.seq ?_;refine Cov.region rfl ?_;refine Cov.q .ro (.assign rfl) rfl ?_;refine Cov.region_end ?_
               cases r148
               refine Cov.drop 3 0 [] _ rfl rfl ?_;refine Cov.drop 0 4 _ [] rfl rfl ?_
               refine Cov.retS (c := ⟨3, none⟩) (.inr ⟨_, rfl⟩) [.tmp 6] [_] rfl Try.func3 Try.results3 ⟨RV.tmp rfl, trivial⟩ (fun _ h => List.mem_cons_of_mem _ h) ⟨rfl, rfl, rfl⟩
              ·have r149 := ifBF r144 c147; clear r144
               refine Cov.skip ?_;refine Cov.seq ?_;refine Cov.seq ?_;refine Cov.region rfl ?_
               refine Cov.lit [] [] .ro sl39 ty3 rfl rfl rfl rfl rfl rfl (fun b150 hb150 => ?_)
               have o151 : OL (Rep.int .i64) G56 [] ([] : List Int) := ((OL.nil (Rp' := (Rep.int .i64))) :)
               refine Cov.reval 139 (n' := ([] : List Int).length) rfl rfl ?_;refine Cov.q .ro (.move rfl) rfl ?_
               obtain ⟨u157, hu157, r158⟩ := bind_some r149; clear r149
               refine Cov.pullS 4 rfl [_, _, _, _, _] rfl ?_
               refine Cov.appO (Q := (Rep.int .i64)) 0 .ro sl39 ty3 rfl rfl rfl rfl rfl rfl o151 o75 rfl rfl rfl B58 hu157 rfl (fun a153 k154 cs155 o156 => ?_)
               refine Cov.q .ro (.move rfl) rfl ?_
               obtain ⟨u164, hu164, r165⟩ := bind_some r158; clear r158
               refine Cov.pullS 3 rfl [_, _, _, _] rfl ?_
               refine Cov.appO (Q := (Rep.int .i64)) 0 .ro sl39 ty3 rfl rfl rfl rfl rfl rfl o156 o84 rfl rfl rfl B58 hu164 rfl (fun a160 k161 cs162 o163 => ?_)
               refine Cov.q .ro (.len_sl rfl rfl sl39) rfl ?_;refine Cov.q .ro (.move rfl) rfl ?_;refine Cov.region_end ?_;refine Cov.block ?_
               refine Cov.loop2 (α := Nat × List Int) (fun y => [(145, .int .i64 (y.1 : Int))]) [(8, _), (143, _), (144, _)] (fun y => []) (fun y => []) [_, _, _] (fun y => []) [_, _, _] (fun y => List.drop y.1 u164 = y.2 ∧ law35_LookupEven_L1 u31.1.1.1 y.2  = some r) (fun y => y.2.length) (0, u164) ⟨rfl, r165⟩ ⟨rfl, rfl, rfl, rfl, trivial⟩ rfl rfl rfl (fun y hI hb193 => ?_)
               obtain ⟨i189, w190⟩ := y
               obtain ⟨g191, r192⟩ := hI
               try dsimp only at g191 r192
               refine Cov.prune [(145, .int .i64 (i189 : Int)), (8, _), (143, _), (144, _)] ⟨rfl, rfl, rfl, rfl, trivial⟩ ?_;refine Cov.same (bl' := [_, _, _]) (sl' := [_, _, _]) (Fs' := G56 :: Fs) rfl rfl rfl ?_
               cases w190 with
               | nil =>
                rw [law35_LookupEven_L1] at r192; try dsimp only at r192
                refine Cov.seq ?_;refine Cov.region rfl ?_;refine Cov.q .ro (.lss rfl rfl) rfl ?_;refine Cov.region_end ?_;refine Cov.seq ?_
                refine Cov.cond_dec rfl (fun c => absurd c (drop_nil g191)) (fun _ => ?_)
                refine Cov.exit rfl ?_;refine Cov.seq ?_;refine Cov.region rfl ?_;refine Cov.q .ro (.assign rfl) rfl ?_;refine Cov.region_end ?_
                cases r192
                refine Cov.drop 3 0 [] _ rfl rfl ?_;refine Cov.drop 0 3 _ [] rfl rfl ?_
                refine Cov.retS (c := ⟨3, none⟩) (.inr ⟨_, rfl⟩) [.tmp 6] [_] rfl Try.func3 Try.results3 ⟨RV.tmp rfl, trivial⟩ (fun _ h => List.mem_cons_of_mem _ h) ⟨rfl, rfl, rfl⟩
               | cons x207 xs208 =>
                have r206 : law35_LookupEven_B1 u31.1.1.1 (law35_LookupEven_L1 u31.1.1.1 xs208) x207  = some r := r192; clear r192; unfold law35_LookupEven_B1 at r206; try dsimp only at r206
                refine Cov.seq ?_;refine Cov.region rfl ?_;refine Cov.q .ro (.lss rfl rfl) rfl ?_;refine Cov.region_end ?_;refine Cov.seq ?_
                refine Cov.cond_dec rfl (fun _ => ?_) (fun c => absurd (drop_lt g191) c)
                refine Cov.skip ?_;refine Cov.seq ?_;refine Cov.block ?_;refine Cov.seq ?_;refine Cov.region rfl ?_
                obtain ⟨c209, p210, h211⟩ := OL.get o163 (drop_idx g191)
                obtain rfl := h211
                refine Cov.q .ro (.idxO 0 rfl rfl rfl (drop_idx g191) sl39 ty3.sz) rfl ?_;refine Cov.q .ro (.loadO 0 0 rfl (drop_idx g191) p210 rfl (.inl ⟨rfl, rfl⟩) ty3 rfl) rfl ?_;refine Cov.q .ro (.assign rfl) rfl ?_;refine Cov.region_end ?_;refine Cov.seq ?_;refine Cov.region rfl ?_;refine Cov.q .ro (.move rfl) rfl ?_;refine Cov.q .ro (.lss rfl rfl) rfl ?_;refine Cov.q .ro (.move rfl) rfl ?_
                refine Cov.cutR 6 (β := Unit) (fun y => [(157, .bool (decide ((x207 < 0) ∨ (u31.1.1.1 ≤ x207))))]) [(145, _), (8, _), (143, _), (144, _)] (fun y => G56 :: Fs) (fun y => []) [_, _, _] (fun y => []) [_, _, _] (fun y => True) ⟨rfl, rfl, rfl, rfl, trivial⟩ [0, 1, 2] rfl [0, 1, 2] rfl ?_ ?_
                ·rintro _ _
                 refine Cov.prune [(157, .bool (decide ((x207 < 0) ∨ (u31.1.1.1 ≤ x207)))), (145, _), (8, _), (143, _), (144, _)] ⟨rfl, rfl, rfl, rfl, rfl, trivial⟩ ?_;refine Cov.same (bl' := [_, _, _]) (sl' := [_, _, _]) (Fs' := G56 :: Fs) rfl rfl rfl ?_;refine Cov.region_end ?_
                 refine Cov.cond_dec rfl (fun c216 => ?_) (fun c216 => ?_)
                 ·have r217 := ifT r206 c216; clear r206
                  refine Cov.seq ?_;refine Cov.region rfl ?_;refine Cov.q .ro (.assign rfl) rfl ?_;refine Cov.region_end ?_
                  cases r217
                  refine Cov.drop 3 0 [] _ rfl rfl ?_;refine Cov.drop 0 3 _ [] rfl rfl ?_
                  refine Cov.retS (c := ⟨3, none⟩) (.inr ⟨_, rfl⟩) [.tmp 6] [_] rfl Try.func3 Try.results3 ⟨RV.tmp rfl, trivial⟩ (fun _ h => List.mem_cons_of_mem _ h) ⟨rfl, rfl, rfl⟩
                 ·have r218 := ifF r206 c216; clear r206
                  refine Cov.skip ?_;refine Cov.inBlock ?_;refine Cov.region rfl ?_;refine Cov.q .ro (.addw rfl rfl) rfl ?_;refine Cov.q .ro (.move rfl) rfl ?_;refine Cov.region_end ?_
                  refine Cov.prune _ ?_ (Cov.same rfl rfl rfl (hb193 ((i189 + 1), xs208) ⟨(drop_succ g191), r218⟩ (Nat.lt_succ_self _)))
                  exact ⟨(congrArg (fun z => some (Value.int .i64 z)) (idx_wrap (OL.len' o163) g191)), rfl, rfl, rfl, trivial⟩
                ·intro hb213
                 refine Cov.split 151 rfl (fun c212 => ?_) (fun c212 => ?_)
                 ·refine Cov.g_off rfl rfl rfl ?_
                  refine Cov.g_off rfl rfl rfl ?_;refine Cov.g_off rfl rfl rfl ?_;refine Cov.g_off rfl rfl rfl ?_;refine Cov.g_off rfl rfl rfl ?_;refine Cov.q .ro (.pick_t rfl rfl) rfl ?_
                  refine Cov.prune _ ?_ (Cov.same rfl rfl rfl (hb213 () trivial))
                  exact ⟨dor_t c212, rfl, rfl, rfl, rfl, trivial⟩
                 ·refine Cov.g_on rfl ?_
                  refine Cov.q .ro (.move rfl) rfl ?_;refine Cov.g_on rfl ?_;refine Cov.q .ro (.fieldAddr 0 rfl fl31_0 ty28.sz rfl) rfl ?_;refine Cov.g_on rfl ?_;refine Cov.q .ro (.fieldAddr 0 rfl fl28_0 ty3.sz rfl) rfl ?_;refine Cov.g_on rfl ?_;refine Cov.q .ro (.load_own 2 rfl rfl ty3 rfl) rfl ?_;refine Cov.g_on rfl ?_;refine Cov.q .ro (.geq rfl rfl) rfl ?_
                  refine Cov.q .ro (.pick_f rfl rfl) rfl ?_
                  refine Cov.prune _ ?_ (Cov.same rfl rfl rfl (hb213 () trivial))
                  exact ⟨dor_f c212, rfl, rfl, rfl, rfl, trivial⟩
             ·intro hb141
              refine Cov.split 133 rfl (fun c140 => ?_) (fun c140 => ?_)
              ·have r219 := ifT h143 c140
               refine Cov.g_off rfl rfl rfl ?_;refine Cov.g_off rfl rfl rfl ?_;refine Cov.g_off rfl rfl rfl ?_;refine Cov.g_off rfl rfl rfl ?_;refine Cov.q .ro (.pick_t rfl rfl) rfl ?_
               refine Cov.prune _ ?_ (Cov.same rfl rfl rfl (hb141 () trivial))
               exact ⟨sval r219, rfl, rfl, rfl, trivial⟩
              ·have r220 := ifF h143 c140
               refine Cov.g_on rfl ?_;refine Cov.q .ro (.move rfl) rfl ?_;refine Cov.g_on rfl ?_
               obtain ⟨u221, hu221, r222⟩ := bind_some r220; clear r220
               obtain ⟨c223, p224, h225⟩ := OL.get o93 hu221
               obtain rfl := h225
               refine Cov.q .ro (.idxO 1 rfl rfl rfl hu221 sl39 ty3.sz) rfl ?_;refine Cov.g_on rfl ?_;refine Cov.q .ro (.loadO 1 0 rfl hu221 p224 rfl (.inl ⟨rfl, rfl⟩) ty3 rfl) rfl ?_;refine Cov.g_on rfl ?_;refine Cov.q .ro (.neq rfl rfl) rfl ?_;refine Cov.q .ro (.pick_f rfl rfl) rfl ?_
               refine Cov.prune _ ?_ (Cov.same rfl rfl rfl (hb141 () trivial))
               exact ⟨sval r222, rfl, rfl, rfl, trivial⟩
            ·intro hb132
             refine Cov.split 127 rfl (fun c131 => ?_) (fun c131 => ?_)
             ·refine Cov.g_off rfl rfl rfl ?_
              refine Cov.g_off rfl rfl rfl ?_;refine Cov.g_off rfl rfl rfl ?_;refine Cov.g_off rfl rfl rfl ?_;refine Cov.q .ro (.pick_t rfl rfl) rfl ?_
              refine Cov.prune _ ?_ (Cov.same rfl rfl rfl (hb132 () trivial))
              exact ⟨dor_t c131, rfl, rfl, rfl, rfl, trivial⟩
             ·refine Cov.g_on rfl ?_
              refine Cov.q .ro (.move rfl) rfl ?_;refine Cov.g_on rfl ?_;refine Cov.q .ro (.len_sl rfl rfl sl39) rfl ?_;refine Cov.g_on rfl ?_;refine Cov.q .ro (.move rfl) rfl ?_;refine Cov.g_on rfl ?_;refine Cov.q .ro (.neq rfl rfl) rfl ?_;refine Cov.q .ro (.pick_f rfl rfl) rfl ?_
              refine Cov.prune _ ?_ (Cov.same rfl rfl rfl (hb132 () trivial))
              exact ⟨dor_f c131, rfl, rfl, rfl, rfl, trivial⟩
           ·intro hb128
            refine Cov.split 120 rfl (fun c127 => ?_) (fun c127 => ?_)
            ·refine Cov.g_off rfl rfl rfl ?_
             refine Cov.g_off rfl rfl rfl ?_;refine Cov.g_off rfl rfl rfl ?_;refine Cov.g_off rfl rfl rfl ?_;refine Cov.g_off rfl rfl rfl ?_;refine Cov.q .ro (.pick_t rfl rfl) rfl ?_
             refine Cov.prune _ ?_ (Cov.same rfl rfl rfl (hb128 () trivial))
             exact ⟨dor_t c127, rfl, rfl, rfl, rfl, rfl, trivial⟩
            ·refine Cov.g_on rfl ?_
             refine Cov.q .ro (.move rfl) rfl ?_;refine Cov.g_on rfl ?_;refine Cov.q .ro (.len_sl rfl rfl sl39) rfl ?_;refine Cov.g_on rfl ?_;refine Cov.q .ro (.move rfl) rfl ?_;refine Cov.g_on rfl ?_;refine Cov.q .ro (.len_sl rfl rfl sl39) rfl ?_;refine Cov.g_on rfl ?_;refine Cov.q .ro (.neq rfl rfl) rfl ?_
             refine Cov.q .ro (.pick_f rfl rfl) rfl ?_
             refine Cov.prune _ ?_ (Cov.same rfl rfl rfl (hb128 () trivial))
             exact ⟨dor_f c127, rfl, rfl, rfl, rfl, rfl, trivial⟩
          ·intro hb124
           refine Cov.split 113 rfl (fun c123 => ?_) (fun c123 => ?_)
           ·refine Cov.g_off rfl rfl rfl ?_
            refine Cov.g_off rfl rfl rfl ?_;refine Cov.g_off rfl rfl rfl ?_;refine Cov.g_off rfl rfl rfl ?_;refine Cov.g_off rfl rfl rfl ?_;refine Cov.q .ro (.pick_t rfl rfl) rfl ?_
            refine Cov.prune _ ?_ (Cov.same rfl rfl rfl (hb124 () trivial))
            exact ⟨dor_t c123, rfl, rfl, rfl, rfl, rfl, rfl, trivial⟩
           ·refine Cov.g_on rfl ?_
            refine Cov.q .ro (.move rfl) rfl ?_;refine Cov.g_on rfl ?_;refine Cov.q .ro (.len_sl rfl rfl sl39) rfl ?_;refine Cov.g_on rfl ?_;refine Cov.q .ro (.move rfl) rfl ?_;refine Cov.g_on rfl ?_;refine Cov.q .ro (.len_sl rfl rfl sl39) rfl ?_;refine Cov.g_on rfl ?_;refine Cov.q .ro (.neq rfl rfl) rfl ?_
            refine Cov.q .ro (.pick_f rfl rfl) rfl ?_
            refine Cov.prune _ ?_ (Cov.same rfl rfl rfl (hb124 () trivial))
            exact ⟨dor_f c123, rfl, rfl, rfl, rfl, rfl, rfl, trivial⟩
         ·intro hb120
          refine Cov.split 109 rfl (fun c119 => ?_) (fun c119 => ?_)
          ·refine Cov.g_off rfl rfl rfl ?_
           refine Cov.g_off rfl rfl rfl ?_;refine Cov.q .ro (.pick_t rfl rfl) rfl ?_
           refine Cov.prune _ ?_ (Cov.same rfl rfl rfl (hb120 () trivial))
           exact ⟨dor_t c119, rfl, rfl, rfl, rfl, rfl, rfl, trivial⟩
          ·refine Cov.g_on rfl ?_
           refine Cov.q .ro (.move rfl) rfl ?_;refine Cov.g_on rfl ?_;refine Cov.q .ro (.neq rfl rfl) rfl ?_;refine Cov.q .ro (.pick_f rfl rfl) rfl ?_
           refine Cov.prune _ ?_ (Cov.same rfl rfl rfl (hb120 () trivial))
           exact ⟨dor_f c119, rfl, rfl, rfl, rfl, rfl, rfl, trivial⟩
        ·intro hb116
         refine Cov.split 105 rfl (fun c115 => ?_) (fun c115 => ?_)
         ·refine Cov.g_off rfl rfl rfl ?_
          refine Cov.g_off rfl rfl rfl ?_;refine Cov.q .ro (.pick_t rfl rfl) rfl ?_
          refine Cov.prune _ ?_ (Cov.same rfl rfl rfl (hb116 () trivial))
          exact ⟨dor_t c115, rfl, rfl, rfl, rfl, rfl, rfl, rfl, trivial⟩
         ·refine Cov.g_on rfl ?_
          refine Cov.q .ro (.move rfl) rfl ?_;refine Cov.g_on rfl ?_;refine Cov.q .ro (.neq rfl rfl) rfl ?_;refine Cov.q .ro (.pick_f rfl rfl) rfl ?_
          refine Cov.prune _ ?_ (Cov.same rfl rfl rfl (hb116 () trivial))
          exact ⟨dor_f c115, rfl, rfl, rfl, rfl, rfl, rfl, rfl, trivial⟩
       ·intro hb112
        refine Cov.split 101 rfl (fun c111 => ?_) (fun c111 => ?_)
        ·refine Cov.g_off rfl rfl rfl ?_
         refine Cov.g_off rfl rfl rfl ?_;refine Cov.q .ro (.pick_t rfl rfl) rfl ?_
         refine Cov.prune _ ?_ (Cov.same rfl rfl rfl (hb112 () trivial))
         exact ⟨dor_t c111, rfl, rfl, rfl, rfl, rfl, rfl, rfl, rfl, trivial⟩
        ·refine Cov.g_on rfl ?_
         refine Cov.q .ro (.move rfl) rfl ?_;refine Cov.g_on rfl ?_;refine Cov.q .ro (.neq rfl rfl) rfl ?_;refine Cov.q .ro (.pick_f rfl rfl) rfl ?_
         refine Cov.prune _ ?_ (Cov.same rfl rfl rfl (hb112 () trivial))
         exact ⟨dor_f c111, rfl, rfl, rfl, rfl, rfl, rfl, rfl, rfl, trivial⟩
      ·intro hb108
       refine Cov.split 97 rfl (fun c107 => ?_) (fun c107 => ?_)
       ·refine Cov.g_off rfl rfl rfl ?_
        refine Cov.g_off rfl rfl rfl ?_;refine Cov.q .ro (.pick_t rfl rfl) rfl ?_
        refine Cov.prune _ ?_ (Cov.same rfl rfl rfl (hb108 () trivial))
        exact ⟨dor_t c107, rfl, rfl, rfl, rfl, rfl, rfl, rfl, rfl, rfl, trivial⟩
       ·refine Cov.g_on rfl ?_
        refine Cov.q .ro (.move rfl) rfl ?_;refine Cov.g_on rfl ?_;refine Cov.q .ro (.neq rfl rfl) rfl ?_;refine Cov.q .ro (.pick_f rfl rfl) rfl ?_
        refine Cov.prune _ ?_ (Cov.same rfl rfl rfl (hb108 () trivial))
        exact ⟨dor_f c107, rfl, rfl, rfl, rfl, rfl, rfl, rfl, rfl, rfl, trivial⟩
    ·intro hb17
     refine Cov.split 42 rfl (fun c16 => ?_) (fun c16 => ?_)
     ·refine Cov.g_off rfl rfl rfl ?_
      refine Cov.g_off rfl rfl rfl ?_;refine Cov.g_off rfl rfl rfl ?_;refine Cov.q .ro (.pick_t rfl rfl) rfl ?_
      refine Cov.prune _ ?_ (Cov.same rfl rfl rfl (hb17 () trivial))
      exact ⟨dor_t c16, rfl, rfl, rfl, trivial⟩
     ·refine Cov.g_on rfl ?_
      refine Cov.q .ro (.move rfl) rfl ?_;refine Cov.g_on rfl ?_;refine Cov.q .ro (.len_s rfl Try.underlying9) rfl ?_;refine Cov.g_on rfl ?_;refine Cov.q .ro (.gtr rfl rfl) rfl ?_;refine Cov.q .ro (.pick_f rfl rfl) rfl ?_
      refine Cov.prune _ ?_ (Cov.same rfl rfl rfl (hb17 () trivial))
      exact ⟨dor_f c16, rfl, rfl, rfl, trivial⟩
   ·intro hb13
    refine Cov.split 37 rfl (fun c12 => ?_) (fun c12 => ?_)
    ·refine Cov.g_off rfl rfl rfl ?_
     refine Cov.g_off rfl rfl rfl ?_;refine Cov.g_off rfl rfl rfl ?_;refine Cov.q .ro (.pick_t rfl rfl) rfl ?_
     refine Cov.prune _ ?_ (Cov.same rfl rfl rfl (hb13 () trivial))
     exact ⟨dor_t c12, rfl, rfl, rfl, trivial⟩
    ·refine Cov.g_on rfl ?_
     refine Cov.q .ro (.move rfl) rfl ?_;refine Cov.g_on rfl ?_;refine Cov.q .ro (.len_s rfl Try.underlying9) rfl ?_;refine Cov.g_on rfl ?_;refine Cov.q .ro (.lss rfl rfl) rfl ?_;refine Cov.q .ro (.pick_f rfl rfl) rfl ?_
     refine Cov.prune _ ?_ (Cov.same rfl rfl rfl (hb13 () trivial))
     exact ⟨dor_f c12, rfl, rfl, rfl, trivial⟩
  ·intro hb9
   refine Cov.split 32 rfl (fun c8 => ?_) (fun c8 => ?_)
   ·refine Cov.g_off rfl rfl rfl ?_
    refine Cov.g_off rfl rfl rfl ?_;refine Cov.g_off rfl rfl rfl ?_;refine Cov.q .ro (.pick_t rfl rfl) rfl ?_
    refine Cov.prune _ ?_ (Cov.same rfl rfl rfl (hb9 () trivial))
    exact ⟨dor_t c8, rfl, rfl, rfl, trivial⟩
   ·refine Cov.g_on rfl ?_
    refine Cov.q .ro (.move rfl) rfl ?_;refine Cov.g_on rfl ?_;refine Cov.q .ro (.len_s rfl Try.underlying9) rfl ?_;refine Cov.g_on rfl ?_;refine Cov.q .ro (.gtr rfl rfl) rfl ?_;refine Cov.q .ro (.pick_f rfl rfl) rfl ?_
    refine Cov.prune _ ?_ (Cov.same rfl rfl rfl (hb9 () trivial))
    exact ⟨dor_f c8, rfl, rfl, rfl, trivial⟩
end Go.Proofs.Ytmfppphlhgneeaa
end

section
namespace Go.Proofs.Ytmfppphlhgneeaa
set_option linter.unusedVariables false
def cuckoo_placing_place_B1 (rec9999 : ((List (List Int)) × (List Int) × (List Bool)) → Int → (List Bool) → Option (Bool × (List Int) × (List Bool))) (z130 : Int) (z133 : List (List Int)) (z134 : List Bool) (rec112 : (List Bool) → (List Int) → Option (Bool × (List Int) × (List Bool))) (x136 : Int) (v116 : List Bool) (v122 : List Int) : Option (Bool × (List Int) × (List Bool)) :=
  (lidx v116 x136).bind fun u141 => (if (u141 = true) then (some true) else (lidx z134 x136).bind fun u226 => some u226).bind fun u153 => if (u153 = true) then (rec112 v116 v122) else
(lidx v122 x136).bind fun u161 => if (u161 < 0) then ((lidx v122 x136).bind fun u168 => (lupd v122 x136 z130).bind fun u173 => some (true, u173, v116)) else
(lidx v116 x136).bind fun u180 => (lupd v116 x136 true).bind fun u185 => (lidx v122 x136).bind fun u191 => (rec9999 (z133, v122, z134) u191 u185).bind fun u196 => if (u196.1 = true) then ((lidx u196.2.1 x136).bind fun u212 => (lupd u196.2.1 x136 z130).bind fun u217 => some (true, u217, u196.2.2)) else
 rec112 u196.2.2 u196.2.1
def cuckoo_placing_place_L1 (rec9999 : ((List (List Int)) × (List Int) × (List Bool)) → Int → (List Bool) → Option (Bool × (List Int) × (List Bool))) (z130 : Int) (z133 : List (List Int)) (z134 : List Bool) : (List Int) → (List Bool) → (List Int) → Option (Bool × (List Int) × (List Bool))
  | [], v116, v122 => some (false, v122, v116)
  | x136 :: xs, v116, v122 => cuckoo_placing_place_B1 rec9999 z130 z133 z134 (cuckoo_placing_place_L1 rec9999 z130 z133 z134 xs) x136 v116 v122
def cuckoo_placing_place_B2 (rec9999 : ((List (List Int)) × (List Int) × (List Bool)) → Int → (List Bool) → Option (Bool × (List Int) × (List Bool))) (x0 : ((List (List Int)) × (List Int) × (List Bool))) (x1 : Int) (x2 : (List Bool)) : Option (Bool × (List Int) × (List Bool)) :=
  (lidx x0.1 x1).bind fun u4 => cuckoo_placing_place_L1 rec9999 x1 x0.1 x0.2.2 u4 x2 x0.2.1
def cuckoo_placing_place_R : Nat → ((List (List Int)) × (List Int) × (List Bool)) → Int → (List Bool) → Option (Bool × (List Int) × (List Bool))
  | 0, _, _, _ => none
  | n + 1, x0, x1, x2 => cuckoo_placing_place_B2 (cuckoo_placing_place_R n) x0 x1 x2
end Go.Proofs.Ytmfppphlhgneeaa
end

section
namespace Go.Proofs.Ytmfppphlhgneeaa
def stp (b : Int) : Nat → Int → Nat
  | 0, _ => 1
  | k + 1, n => if n ≤ b then 1 else 1 + stp b k ((n + b - 1) / b)
theorem ceil_le {n b m : Int} (hb : 1 ≤ b) : (n + b - 1) / b ≤ m ↔ n ≤ m * b := by
  constructor
  · intro h
    have h1 := Int.mul_ediv_add_emod (n + b - 1) b
    have h2 := Int.emod_lt_of_pos (n + b - 1) (by omega : 0 < b)
    have h3 : b * ((n + b - 1) / b) ≤ b * m := Int.mul_le_mul_of_nonneg_left h (by omega)
    rw [Int.mul_comm m b]; omega
  · intro h
    have : (n + b - 1) / b < m + 1 := Int.ediv_lt_of_lt_mul (by omega) (by rw [Int.add_mul]; omega)
    omega
theorem ceil_lt {n b : Int} (hb : 2 ≤ b) (h : b < n) : 1 ≤ (n + b - 1) / b ∧ (n + b - 1) / b ≤ n - 1 := by
  constructor
  · exact Int.le_ediv_of_mul_le (by omega) (by omega)
  · rw [ceil_le (by omega)]
    have h1 : 0 ≤ (n - 2) * (b - 2) := Int.mul_nonneg (by omega) (by omega)
    have h2 : (n - 2) * (b - 2) = n * b - 2 * n - 2 * b + 4 := by rw [Int.sub_mul, Int.mul_sub, Int.mul_sub]; omega
    rw [Int.sub_mul]; omega
theorem stp_pos (b : Int) : ∀ (k : Nat) (n : Int), 1 ≤ stp b k n
  | 0, _ => Nat.le_refl _
  | k + 1, n => by simp only [stp]; split <;> omega
theorem stp_le {b : Int} (hb : 2 ≤ b) : ∀ (k : Nat) (n : Int), n ≤ k → ∀ j : Nat, stp b k n ≤ j + 1 ↔ n ≤ b ^ (j + 1)
  | 0, n, h, j => by
    have : 0 < b ^ (j + 1) := Int.pow_pos (by omega)
    simp only [stp]; omega
  | k + 1, n, h, j => by
    simp only [stp]
    split
    · rename_i hn
      have h1 : b ^ 1 ≤ b ^ (j + 1) := by
        rw [Int.pow_succ b j, Int.pow_succ, Int.pow_zero]
        have h0 : 0 < b ^ j := Int.pow_pos (by omega)
        exact Int.mul_le_mul_of_nonneg_right (by omega) (by omega)
      rw [Int.pow_succ, Int.pow_zero] at h1
      omega
    · rename_i hn
      have hc := ceil_lt hb (by omega : b < n)
      cases j with
      | zero =>
        have := stp_pos b k ((n + b - 1) / b)
        rw [Int.pow_succ, Int.pow_zero]
        omega
      | succ j =>
        have ih := stp_le hb k ((n + b - 1) / b) (by omega) j
        have e : 1 + stp b k ((n + b - 1) / b) ≤ j + 1 + 1 ↔ stp b k ((n + b - 1) / b) ≤ j + 1 := by omega
        rw [e, ih, ceil_le (by omega), ← Int.pow_succ]
theorem stp_fuel {b : Int} (hb : 2 ≤ b) {k m : Nat} {n : Int} (h1 : n ≤ k) (h2 : n ≤ m) : stp b k n = stp b m n := by
  have a := stp_pos b k n
  have c := stp_pos b m n
  have h3 := stp_le hb k n h1 (stp b m n - 1)
  have h4 := stp_le hb m n h2 (stp b m n - 1)
  have h5 := stp_le hb k n h1 (stp b k n - 1)
  have h6 := stp_le hb m n h2 (stp b k n - 1)
  have e1 : stp b m n - 1 + 1 = stp b m n := by omega
  have e2 : stp b k n - 1 + 1 = stp b k n := by omega
  rw [e1] at h3 h4
  rw [e2] at h5 h6
  have := h3.2 (h4.1 (Nat.le_refl _))
  have := h6.2 (h5.1 (Nat.le_refl _))
  omega
def st (b n : Int) : Nat := stp b 256 n
theorem st_le {b n : Int} (hb : 2 ≤ b) (hn : n ≤ 256) (j : Nat) (hj : 1 ≤ j) : st b n ≤ j ↔ n ≤ b ^ j := by
  have := stp_le hb 256 n hn (j - 1)
  rwa [Nat.sub_add_cancel hj] at this
theorem st_pos (b n : Int) : 1 ≤ st b n := stp_pos b 256 n
theorem st_small {b n : Int} (h : n ≤ b) : st b n = 1 := by
  show (if n ≤ b then 1 else _) = 1
  rw [if_pos h]
theorem st_large {b n : Int} (hb : 2 ≤ b) (h : b < n) (hn : n ≤ 256) : st b n = 1 + st b ((n + b - 1) / b) := by
  have hc := ceil_lt hb h
  have h1 : st b n = 1 + stp b 255 ((n + b - 1) / b) := by
    unfold st
    show (if n ≤ b then 1 else _) = _
    rw [if_neg (by omega)]
  rw [h1, stp_fuel hb (k := 255) (m := 256) (by omega) (by omega)]; rfl
theorem w64_ceil {n b : Int} (h1 : 1 ≤ n) (h2 : n ≤ 100000) (h3 : 1 ≤ b) (h4 : b ≤ 100000) : w64 (Int.tdiv (w64 (w64 (n + b) - 1)) b) = (n + b - 1) / b := by
  have a := Int.ediv_nonneg (by omega : 0 ≤ n + b - 1) (by omega : 0 ≤ b)
  have c := Int.ediv_le_self b (by omega : 0 ≤ n + b - 1)
  rw [w64_id (x := n + b) (by omega) (by omega), w64_id (x := n + b - 1) (by omega) (by omega), Int.tdiv_eq_ediv_of_nonneg (by omega), w64_id (by omega) (by omega)]
theorem nz_of {y : Int} (h : y ≠ 0) : nz y = some () := by unfold nz; rw [if_neg h]
theorem rsteps_L {b : Int} (hb : 2 ≤ b) (hb2 : b ≤ 8) : ∀ (f : Nat) (n c : Int), 1 ≤ n → n ≤ 256 → n < f → 0 ≤ c → c + n ≤ 1000 → ref21_Steps_L1 b f n c = some (c - 1 + st b n, 0)
  | 0, n, c, h1, _, h3, _, _ => by omega
  | f + 1, n, c, h1, h2, h3, h4, h5 => by
    show ref21_Steps_B1 b (ref21_Steps_L1 b f) n c = _
    unfold ref21_Steps_B1
    split
    · rename_i h
      have hc := ceil_lt hb h
      rw [nz_of (by omega)]
      simp only [Option.bind_some]
      rw [w64_ceil h1 (by omega) (by omega) (by omega), w64_id (x := c + 1) (by omega) (by omega), rsteps_L hb hb2 f _ _ hc.1 (by omega) (by omega) (by omega) (by omega), st_large hb h h2]
      congr 2; omega
    · rw [st_small (by omega)]
      congr 2; omega
def stepsI (n b : Int) : Int × Int := if (1 ≤ n ∧ n ≤ 256) ∧ 2 ≤ b ∧ b ≤ 8 then (st b n, 0) else (0, 1)
theorem rsteps_eq (n b : Int) : ref21_Steps n b = some (stepsI n b) := by
  unfold ref21_Steps stepsI
  split
  · rw [if_neg (by omega)]
  · rw [if_pos (by omega), rsteps_L (by omega) (by omega) _ _ _ (by omega) (by omega) (by simp only [big]; omega) (by omega) (by omega)]
    congr 2; omega
end Go.Proofs.Ytmfppphlhgneeaa
end

section
namespace Go.Proofs.Ytmfppphlhgneeaa
theorem nz_ok {y : Int} (h : y ≠ 0) : nz y = some () := by unfold nz; rw [if_neg h]
theorem lidx_ok {α : Type} {l : List α} {i : Int} (d : α) (h0 : 0 ≤ i) (h1 : i < l.length) : lidx l i = some (l.getD i.toNat d) := by
  refine lidx_of h0 ?_
  rw [List.getD_eq_getElem?_getD]
  have : i.toNat < l.length := by omega
  simp [this]
theorem lidx_nat {α : Type} {l : List α} {i : Nat} (d : α) (h1 : i < l.length) : lidx l (i : Int) = some (l.getD i d) := by
  rw [lidx_ok d (by omega) (by omega), Int.toNat_natCast]
theorem lapp_ok {α : Type} {l m : List α} (h : l.length + m.length ≤ 16777216) : lapp l m = some (l ++ m) := by unfold lapp; rw [if_pos h]
theorem lsub_ok {α : Type} {l : List α} {i j : Int} (h0 : 0 ≤ i) (h1 : i ≤ j) (h2 : j ≤ l.length) : lsub l i j = some ((l.drop i.toNat).take (j - i).toNat) := by unfold lsub; rw [if_pos ⟨h0, h1, h2⟩]
theorem lupd_ok {α : Type} {l : List α} {i : Int} {y : α} (h0 : 0 ≤ i) (h1 : i < l.length) : lupd l i y = some (l.set i.toNat y) := by unfold lupd; rw [if_pos ⟨h0, h1⟩]
end Go.Proofs.Ytmfppphlhgneeaa
end

section
namespace Go.Proofs.Ytmfppphlhgneeaa
abbrev gd (l : List ByteArray) (i : Nat) : ByteArray := l.getD i ByteArray.empty
def okAt (l : List ByteArray) (i : Nat) : Prop := (1 ≤ (gd l i).size ∧ (gd l i).size ≤ 32) ∧ (i = 0 ∨ sLt (gd l (i - 1)) (gd l i))
instance (l : List ByteArray) (i : Nat) : Decidable (okAt l i) := by unfold okAt; infer_instance
def AscF (l : List ByteArray) (i : Nat) : Prop := ∀ j, j < l.length → i ≤ j → okAt l j
instance (l : List ByteArray) (i : Nat) : Decidable (AscF l i) := by unfold AscF; infer_instance
def AscP (l : List ByteArray) : Prop := ∀ j, j < l.length → okAt l j
instance (l : List ByteArray) : Decidable (AscP l) := by unfold AscP; infer_instance
def KeyP (w : ByteArray) : Prop := 1 ≤ w.size ∧ w.size ≤ 32
instance (w : ByteArray) : Decidable (KeyP w) := by unfold KeyP; infer_instance
theorem nb_t {p : Prop} [Decidable p] (h : p) : ¬ ((!decide p) = true) := by simp [h]
theorem nb_f {p : Prop} [Decidable p] (h : ¬ p) : (!decide p) = true := by simp [h]
theorem proper_eq (w : ByteArray) : fence_proper w = some (decide (KeyP w)) := by
  unfold fence_proper; exact congrArg some (decide_eq_decide.2 (by unfold KeyP; omega))
theorem key_eq (w : ByteArray) : ref20_Key w = some (decide (KeyP w)) := by
  unfold ref20_Key; exact congrArg some (decide_eq_decide.2 (by unfold KeyP; omega))
theorem drop_gd {l xs : List ByteArray} {x : ByteArray} {i : Nat} (h : l.drop i = x :: xs) : i < l.length ∧ x = gd l i := by
  have h1 := drop_lt h
  have h2 := drop_idx h
  rw [lidx_nat .empty (by omega)] at h2
  exact ⟨by omega, (Option.some.inj h2).symm⟩
theorem asc_L {z : List ByteArray} (hz : z.length ≤ 10000000) : ∀ (xs : List ByteArray) (i : Nat), z.drop i = xs → fence_ascend_L1 z xs i = some (decide (AscF z i))
  | [], i, h => by
    have := drop_nil h
    show some true = _
    congr 1
    exact (decide_eq_true (fun j h1 h2 => by omega)).symm
  | x :: xs, i, h => by
    obtain ⟨hi, rfl⟩ := drop_gd h
    show fence_ascend_B1 z (fence_ascend_L1 z xs (i + 1)) (gd z i) i = _
    unfold fence_ascend_B1
    rw [asc_L hz xs (i + 1) (drop_succ h), proper_eq]
    simp only [Option.bind_some]
    have e2 : (if (0 < (i : Int)) then ((lidx z (w64 ((i : Int) - 1))).bind fun u127 => some (decide (¬ sLt u127 (gd z i)))) else some false) = some (decide (i ≠ 0 ∧ ¬ sLt (gd z (i - 1)) (gd z i))) := by
      by_cases h0 : i = 0
      · rw [if_neg (by omega)]; simp [h0]
      · rw [if_pos (by omega), w64_id (by omega) (by omega), show ((i : Int) - 1) = ((i - 1 : Nat) : Int) by omega, lidx_nat .empty (by omega)]
        simp [h0]
    rw [e2]
    simp only [Option.bind_some]
    have e3 : (if (!decide (KeyP (gd z i))) = true then some true else some (decide (i ≠ 0 ∧ ¬ sLt (gd z (i - 1)) (gd z i)))) = some (decide (¬ okAt z i)) := by
      by_cases hk : KeyP (gd z i)
      · rw [if_neg (nb_t hk)]
        congr 1
        rw [decide_eq_decide]
        unfold okAt
        constructor
        · rintro ⟨h1, h2⟩ ⟨_, h3 | h3⟩
          · exact h1 h3
          · exact h2 h3
        · intro h1
          exact ⟨fun h2 => h1 ⟨hk, .inl h2⟩, fun h2 => h1 ⟨hk, .inr h2⟩⟩
      · rw [if_pos (nb_f hk)]
        congr 1
        exact (decide_eq_true (p := ¬ okAt z i) (fun h1 => hk h1.1)).symm
    rw [e3]
    simp only [Option.bind_some]
    by_cases ok : okAt z i
    · rw [if_neg (by simp [ok])]
      congr 1
      rw [decide_eq_decide]
      constructor
      · intro h1 j h2 h3
        rcases Nat.eq_or_lt_of_le h3 with rfl | h4
        · exact ok
        · exact h1 j h2 h4
      · exact fun h1 j h2 h3 => h1 j h2 (by omega)
    · rw [if_pos (by simp [ok])]
      congr 1
      exact (decide_eq_false (fun h1 => ok (h1 i hi (Nat.le_refl _)))).symm
theorem ascend_eq {z : List ByteArray} (hz : z.length ≤ 10000000) : fence_ascend z = some (decide (AscP z)) := by
  unfold fence_ascend
  rw [asc_L hz z 0 rfl]
  congr 1
  rw [decide_eq_decide]
  exact ⟨fun h j h1 => h j h1 (by omega), fun h j h1 _ => h j h1⟩
def FenP (f : Int × List ByteArray) : Prop := ((2 ≤ f.1 ∧ f.1 ≤ 8) ∧ 1 ≤ f.2.length ∧ f.2.length ≤ 256) ∧ AscP f.2
instance (f : Int × List ByteArray) : Decidable (FenP f) := by unfold FenP; infer_instance
theorem check_eq (f : Int × List ByteArray) : fence_Check f = some (if FenP f then 0 else 2) := by
  unfold fence_Check fence_sized
  simp only [Option.bind_some]
  by_cases h : (2 ≤ f.1 ∧ f.1 ≤ 8) ∧ 1 ≤ f.2.length ∧ f.2.length ≤ 256
  · rw [if_neg (by simp; omega), ascend_eq (by omega)]
    simp only [Option.bind_some]
    by_cases h2 : AscP f.2
    · rw [if_neg (nb_t h2), if_pos ⟨h, h2⟩]
    · rw [if_pos (nb_f h2), if_neg (fun h3 => h2 h3.2)]
  · rw [if_pos (by simp; omega), if_neg (fun h3 => h h3.1)]; rfl
theorem asc_lt {l : List ByteArray} (h : AscP l) : ∀ {j i : Nat}, i < j → j < l.length → sLt (gd l i) (gd l j)
  | 0, i, h0, _ => by omega
  | j + 1, i, h0, h1 => by
    rcases (h (j + 1) h1).2 with h2 | h2
    · omega
    · simp only [Nat.add_sub_cancel] at h2
      rcases Nat.lt_or_ge i j with h3 | h3
      · exact sLt_trans (asc_lt h h3 (by omega)) h2
      · obtain rfl : i = j := by omega
        exact h2
def lastN (l : List ByteArray) (w : ByteArray) : Nat → Nat
  | 0 => 0
  | q + 1 => if ¬ sLt w (gd l q) then q else lastN l w q
theorem lastN_le (l : List ByteArray) (w : ByteArray) : ∀ q, 1 ≤ q → lastN l w q < q
  | 0, h => by omega
  | q + 1, _ => by
    simp only [lastN]
    split
    · omega
    · rcases Nat.eq_zero_or_pos q with h | h
      · subst h; simp [lastN]
      · have := lastN_le l w q h; omega
theorem lastN_eq {l : List ByteArray} {w : ByteArray} {r : Nat} (h1 : ∀ k, k < r → ¬ sLt w (gd l k)) : ∀ n, r ≤ n → (∀ k, r ≤ k → k < n → sLt w (gd l k)) → lastN l w n = r - 1
  | 0, h, _ => by simp [lastN]; omega
  | n + 1, h, h2 => by
    simp only [lastN]
    rcases Nat.lt_or_ge n r with h3 | h3
    · rw [if_pos (h1 n h3)]; omega
    · rw [if_neg (fun hn => hn (h2 n h3 (by omega)))]
      exact lastN_eq h1 n h3 (fun k h4 h5 => h2 k h4 (by omega))
theorem partk {l : List ByteArray} (h : AscP l) (w : ByteArray) : ∀ n, n ≤ l.length → ∃ r, r ≤ n ∧ (∀ k, k < r → ¬ sLt w (gd l k)) ∧ ∀ k, r ≤ k → k < n → sLt w (gd l k)
  | 0, _ => ⟨0, by omega, fun k h => by omega, fun k _ h => by omega⟩
  | n + 1, hn => by
    by_cases hw : sLt w (gd l n)
    · obtain ⟨r, h1, h2, h3⟩ := partk h w n (by omega)
      refine ⟨r, by omega, h2, fun k h4 h5 => ?_⟩
      rcases Nat.lt_or_ge k n with h6 | h6
      · exact h3 k h4 h6
      · obtain rfl : k = n := by omega
        exact hw
    · refine ⟨n + 1, by omega, fun k h4 h5 => ?_, fun k h4 h5 => by omega⟩
      rcases Nat.lt_or_ge k n with h6 | h6
      · exact hw (sLt_trans h5 (asc_lt h h6 (by omega)))
      · obtain rfl : k = n := by omega
        exact hw h5
theorem search_L {z : Int → Option Bool} {P : Int → Prop} [DecidablePred P] {n : Int} (hn : n ≤ 100000000) (hz : ∀ i, 0 ≤ i → i < n → z i = some (decide (P i))) (hm : ∀ i j, 0 ≤ i → i ≤ j → j < n → P i → P j) : ∀ (f : Nat) (i j : Int), 0 ≤ i → i ≤ j → j ≤ n → j - i < f → (∀ k, 0 ≤ k → k < i → ¬ P k) → (∀ k, j ≤ k → k < n → P k) →
    ∃ r, sort_Search_L1 z f i j = some r ∧ 0 ≤ r ∧ r ≤ n ∧ (∀ k, 0 ≤ k → k < r → ¬ P k) ∧ ∀ k, r ≤ k → k < n → P k
  | 0, i, j, h0, h1, h2, h3, _, _ => by omega
  | f + 1, i, j, h0, h1, h2, h3, h4, h5 => by
    show ∃ r, sort_Search_B1 z (sort_Search_L1 z f) i j = some r ∧ _
    unfold sort_Search_B1
    split
    · rename_i hij
      have em : w64 (IntKind.u64.wrap (w64 (i + j)) / 2) = (i + j) / 2 := by
        rw [w64_id (x := i + j) (by omega) (by omega), IntWalk.u64_in _ (by constructor <;> omega), w64_id (by omega) (by omega)]
      rw [em, w64_id (x := (i + j) / 2 + 1) (by omega) (by omega), hz _ (by omega) (by omega)]
      simp only [Option.bind_some]
      by_cases hp : P ((i + j) / 2)
      · rw [if_neg (by simp [hp])]
        exact search_L hn hz hm f _ _ (by omega) (by omega) (by omega) (by omega) h4 (fun k h6 h7 => hm _ _ (by omega) h6 h7 hp)
      · rw [if_pos (by simp [hp])]
        exact search_L hn hz hm f _ _ (by omega) (by omega) (by omega) (by omega) (fun k h6 h7 h8 => hp (hm _ _ h6 (by omega) (by omega) h8)) h5
    · exact ⟨i, rfl, h0, by omega, h4, fun k h6 h7 => h5 k (by omega) h7⟩
theorem behind_ok {l : List ByteArray} (hl : l.length ≤ 10000000) (h : AscP l) (w : ByteArray) : ∃ r : Int, fence_behind l w = some r ∧ 0 ≤ r ∧ r ≤ l.length ∧ (∀ k : Int, 0 ≤ k → k < r → ¬ sLt w (gd l k.toNat)) ∧ ∀ k : Int, r ≤ k → k < l.length → sLt w (gd l k.toNat) := by
  obtain ⟨r, h1, h2⟩ := search_L (z := fun y0 => fence_behind_f1 y0 l w) (P := fun k => sLt w (gd l k.toNat)) (n := l.length) (by omega)
    (fun i h0 h1 => by show fence_behind_f1 i l w = _; unfold fence_behind_f1; rw [lidx_ok .empty h0 h1]; rfl)
    (fun i j h0 h1 h2 hk => by
      rcases Int.lt_or_eq_of_le h1 with h3 | rfl
      · exact sLt_trans hk (asc_lt h (by omega) (by omega))
      · exact hk) big 0 l.length (by omega) (by omega) (by omega) (by simp only [big]; omega) (fun k h0 h1 => by omega) (fun k h0 h1 => by omega)
  refine ⟨r, ?_, h2⟩
  unfold fence_behind sort_Search
  rw [h1]; rfl
theorem last_eq {l : List ByteArray} (hl : l.length ≤ 10000000) (h : AscP l) (w : ByteArray) : fence_last l w = some (lastN l w l.length : Int) := by
  obtain ⟨r, e, h1, h2, h3, h4⟩ := behind_ok hl h w
  unfold fence_last
  rw [e]
  simp only [Option.bind_some]
  rw [w64_id (by omega) (by omega), lastN_eq (r := r.toNat) (fun k hk => by have := h3 k (by omega) (by omega); simpa using this) l.length (by omega) (fun k h5 h6 => by have := h4 k (by omega) (by omega); simpa using this)]
  congr 1
  omega
end Go.Proofs.Ytmfppphlhgneeaa
end

section
namespace Go.Proofs.Ytmfppphlhgneeaa
theorem asc_of {l : List ByteArray} (h1 : ∀ i, i < l.length → KeyP (gd l i)) (h2 : ∀ i, i + 1 < l.length → sLt (gd l i) (gd l (i + 1))) : AscP l := fun j hj => by
  refine ⟨h1 j hj, ?_⟩
  cases j with
  | zero => exact .inl rfl
  | succ j => exact .inr (h2 j hj)
end Go.Proofs.Ytmfppphlhgneeaa
end

section
namespace Go.Proofs.Ytmfppphlhgneeaa
def chN (L n : Nat) : Nat := (L + n - 1) / n
theorem chN_iff {L n k : Nat} (hn : 1 ≤ n) : k < chN L n ↔ k * n < L := by
  unfold chN
  rw [Nat.lt_iff_add_one_le, Nat.le_div_iff_mul_le (by omega), Nat.add_mul]
  omega
theorem chN_le {L n : Nat} (hn : 1 ≤ n) : chN L n ≤ L := by
  rcases Nat.lt_or_ge L (chN L n) with h | h
  · have := (chN_iff hn).1 h
    have := Nat.mul_le_mul_left L hn
    omega
  · exact h
theorem chN_int {L n : Nat} : ((chN L n : Nat) : Int) = ((L : Int) + n - 1) / n ∨ L + n = 0 := by
  rcases Nat.eq_zero_or_pos (L + n) with h | h
  · exact .inr h
  · left; unfold chN; rw [Int.natCast_ediv]; congr 1; omega
theorem chN_lt {L n : Nat} (hn : 2 ≤ n) (h : n < L) : 1 ≤ chN L n ∧ chN L n < L := by
  have h1 := ceil_lt (n := L) (b := n) (by omega) (by omega)
  rcases chN_int (L := L) (n := n) with h2 | h2 <;> omega
def chunks (n : Nat) (l : List ByteArray) : List (List ByteArray) := (List.range (chN l.length n)).map fun k => (l.drop (k * n)).take n
def up (n : Nat) (l : List ByteArray) : List ByteArray := (List.range (chN l.length n)).map fun k => gd l (k * n)
theorem up_len (n : Nat) (l : List ByteArray) : (up n l).length = chN l.length n := by simp [up]
theorem up_gd {n : Nat} {l : List ByteArray} {k : Nat} (h : k < chN l.length n) : gd (up n l) k = gd l (k * n) := by
  show (up n l).getD k _ = _
  unfold up
  rw [List.getD_eq_getElem?_getD, List.getElem?_map, List.getElem?_range h]; rfl
theorem range_from {α : Type} (g : Nat → α) {c k : Nat} (h : k < c) : (List.range (c - k)).map (fun t => g (k + t)) = g k :: (List.range (c - (k + 1))).map fun t => g (k + 1 + t) := by
  rw [show c - k = (c - (k + 1)) + 1 by omega, List.range_succ_eq_map, List.map_cons, List.map_map]
  congr 1
  apply List.map_congr_left
  intro a _
  show g (k + (a + 1)) = g (k + 1 + a)
  congr 1; omega
theorem chunk_L {n : Nat} (hn : 1 ≤ n ∧ n ≤ 1000) {l : List ByteArray} (hl : l.length ≤ 1000000) : ∀ (f k : Nat), k ≤ chN l.length n → chN l.length n - k < f →
    slices_Chunk_Lstringstring_f1_L1 l (n : Int) f ((k * n : Nat) : Int) = some ((List.range (chN l.length n - k)).map fun t => (l.drop ((k + t) * n)).take n)
  | 0, k, _, h => by omega
  | f + 1, k, h1, h2 => by
    show slices_Chunk_Lstringstring_f1_B1 l (n : Int) (slices_Chunk_Lstringstring_f1_L1 l (n : Int) f) _ = _
    unfold slices_Chunk_Lstringstring_f1_B1
    have hi := chN_iff (L := l.length) (k := k) hn.1
    split
    · have hk : k < chN l.length n := hi.2 (by omega)
      rw [lsub_ok (by omega) (by omega) (by omega)]
      simp only [Option.bind_some]
      have e1 : ((l.drop ((k * n : Nat) : Int).toNat).take ((l.length : Int) - ((k * n : Nat) : Int)).toNat).length = l.length - k * n := by rw [Int.toNat_natCast]; simp; omega
      rw [e1]
      have e2 : ((k * n : Nat) : Int) + (n : Int) = (((k + 1) * n : Nat) : Int) := by rw [Nat.add_mul]; omega
      rw [w64_id (x := ((k * n : Nat) : Int) + min (n : Int) ((l.length - k * n : Nat) : Int)) (by omega) (by omega), w64_id (x := ((k * n : Nat) : Int) + (n : Int)) (by omega) (by omega), e2]
      unfold lsub3
      rw [if_pos (by omega), lsub_ok (by omega) (by omega) (by omega)]
      simp only [Option.bind_some]
      rw [chunk_L hn hl f (k + 1) (by omega) (by omega), range_from (fun t => (l.drop (t * n)).take n) hk]
      simp only [yc, Option.map_some]
      congr 2
      rw [Int.toNat_natCast]
      rcases Nat.le_total n (l.length - k * n) with h | h
      · rw [show ((k * n : Nat) : Int) + min (n : Int) ((l.length - k * n : Nat) : Int) - ((k * n : Nat) : Int) = (n : Int) by omega, Int.toNat_natCast]
      · rw [List.take_of_length_le (by simp; omega), List.take_of_length_le (by simp; omega)]
    · have hk : ¬ k < chN l.length n := fun h => by have := hi.1 h; omega
      rw [show chN l.length n - k = 0 by omega]; rfl
theorem chunk_eq {n : Nat} (hn : 1 ≤ n ∧ n ≤ 1000) {l : List ByteArray} (hl : l.length ≤ 1000000) : slices_Chunk_Lstringstring l (n : Int) = some (chunks n l) := by
  unfold slices_Chunk_Lstringstring slices_Chunk_Lstringstring_J1 slices_Chunk_Lstringstring_f1
  rw [if_neg (by omega)]
  have := chunk_L hn hl big 0 (by omega) (by have := chN_le (L := l.length) hn.1; simp only [big]; omega)
  rw [Nat.zero_mul] at this
  rw [show (0 : Int) = ((0 : Nat) : Int) from rfl, this]
  simp only [Option.bind_some, Nat.sub_zero, Nat.zero_add]
  rfl
theorem firsts_L (kx : List ByteArray → Option (List (List ByteArray))) : ∀ (cs : List (List ByteArray)) (acc : List ByteArray), (∀ c ∈ cs, c ≠ []) → acc.length + cs.length ≤ 1000000 →
    fence_levels_L2 kx cs acc = kx (acc ++ cs.map fun c => gd c 0)
  | [], acc, _, _ => by simp [fence_levels_L2]
  | c :: cs, acc, h, hl => by
    simp only [List.length_cons] at hl
    show fence_levels_B2 kx (fence_levels_L2 kx cs) c acc = _
    unfold fence_levels_B2
    have hc := List.length_pos_iff.2 (h c (List.mem_cons_self ..))
    rw [lidx_ok .empty (by omega) (by omega)]
    simp only [Option.bind_some]
    rw [lapp_ok (by simp; omega)]
    simp only [Option.bind_some]
    rw [firsts_L kx cs _ (fun c hc => h c (List.mem_cons_of_mem _ hc)) (by simp; omega)]
    simp
theorem chunks_up {n : Nat} (hn : 1 ≤ n) (l : List ByteArray) : (∀ c ∈ chunks n l, c ≠ []) ∧ (chunks n l).map (fun c => gd c 0) = up n l := by
  constructor
  · intro c hc
    obtain ⟨k, hk, rfl⟩ := List.mem_map.1 hc
    have := (chN_iff hn).1 (List.mem_range.1 hk)
    intro h
    have := congrArg List.length h
    simp at this; omega
  · unfold chunks up
    rw [List.map_map]
    apply List.map_congr_left
    intro k hk
    have := (chN_iff hn).1 (List.mem_range.1 hk)
    show gd ((l.drop (k * n)).take n) 0 = gd l (k * n)
    simp [gd, List.getD_eq_getElem?_getD, List.getElem?_take_of_lt hn]
def lvs (n : Nat) : Nat → List ByteArray → List (List ByteArray)
  | 0, _ => []
  | k + 1, l => if l.length ≤ n then [] else up n l :: lvs n k (up n l)
theorem lvs_len {n : Nat} (hn : 2 ≤ n) : ∀ (k : Nat) (l : List ByteArray), (lvs n k l).length + 1 = stp n k l.length
  | 0, l => rfl
  | k + 1, l => by
    simp only [lvs, stp]
    by_cases h : l.length ≤ n
    · rw [if_pos h, if_pos (by omega)]; rfl
    · rw [if_neg h, if_neg (by omega), List.length_cons, lvs_len hn k, up_len]
      rcases chN_int (L := l.length) (n := n) with h2 | h2
      · rw [h2]; omega
      · omega
theorem levels_L {n : Nat} (hn : 2 ≤ n ∧ n ≤ 8) : ∀ (f k : Nat) (l : List ByteArray) (acc : List (List ByteArray)), l.length ≤ k → l.length < f → acc.length + l.length ≤ 100000 →
    fence_levels_L3 (n : Int) f acc l = some (acc ++ lvs n k l)
  | 0, k, l, acc, h1, h2, h3 => by omega
  | f + 1, k, l, acc, h1, h2, h3 => by
    show fence_levels_B3 (n : Int) (fence_levels_L3 (n : Int) f) acc l = _
    unfold fence_levels_B3
    split
    · rename_i h
      cases k with
      | zero => omega
      | succ k =>
        have hc := chN_lt hn.1 (by omega : n < l.length)
        obtain ⟨c1, c2⟩ := chunks_up (n := n) (by omega) l
        rw [chunk_eq ⟨by omega, by omega⟩ (by omega)]
        simp only [Option.bind_some]
        rw [firsts_L _ _ _ c1 (by simp [chunks]; omega), c2, List.nil_append]
        unfold fence_levels_J1
        rw [lapp_ok (by simp; omega)]
        simp only [Option.bind_some]
        rw [levels_L hn f k (up n l) (acc ++ [up n l]) (by rw [up_len]; omega) (by rw [up_len]; omega) (by simp [up_len]; omega)]
        simp only [lvs]
        rw [if_neg (by omega)]
        simp
    · cases k with
      | zero => simp [lvs]
      | succ k => simp only [lvs]; rw [if_pos (by omega)]; simp
theorem levels_eq {n : Nat} (hn : 2 ≤ n ∧ n ≤ 8) {l : List ByteArray} (hl : l.length ≤ 256) : fence_levels ((n : Int), l) = some (l :: lvs n 256 l) := by
  unfold fence_levels slices_Clone_Lstringstring
  dsimp only
  rw [lapp_ok (by simp; omega)]
  simp only [Option.bind_some, List.nil_append]
  rw [levels_L hn big 256 l _ hl (by simp only [big]; omega) (by simp; omega)]
  rfl
def tow (n : Nat) (l : List ByteArray) : List (List ByteArray) := l :: lvs n 256 l
abbrev gl (L : List (List ByteArray)) (i : Nat) : List ByteArray := L.getD i []
theorem tow_ok {n : Nat} (hn : 2 ≤ n) : ∀ (k : Nat) (l : List ByteArray), l.length ≤ k → (∀ i, i + 1 < (l :: lvs n k l).length → n < (gl (l :: lvs n k l) i).length ∧ gl (l :: lvs n k l) (i + 1) = up n (gl (l :: lvs n k l) i)) ∧ (gl (l :: lvs n k l) ((l :: lvs n k l).length - 1)).length ≤ n
  | 0, l, h => ⟨fun i hi => by simp [lvs] at hi, by simp [lvs, gl]; omega⟩
  | k + 1, l, h => by
    simp only [lvs]
    split
    · exact ⟨fun i hi => by simp at hi, by simpa [gl]⟩
    · rename_i h1
      have hc := chN_lt hn (by omega : n < l.length)
      obtain ⟨i1, i2⟩ := tow_ok hn k (up n l) (by rw [up_len]; omega)
      refine ⟨fun i hi => ?_, ?_⟩
      · cases i with
        | zero => exact ⟨by simp only [gl, List.getD_cons_zero]; omega, rfl⟩
        | succ i =>
          have := i1 i (by simpa using hi)
          simpa [gl] using this
      · simpa [gl] using i2
theorem asc_up {n : Nat} (hn : 1 ≤ n) {l : List ByteArray} (h : AscP l) : AscP (up n l) := by
  refine asc_of (fun i hi => ?_) (fun i hi => ?_)
  · rw [up_len] at hi
    rw [up_gd hi]
    exact (h _ ((chN_iff hn).1 hi)).1
  · rw [up_len] at hi
    rw [up_gd (by omega), up_gd hi]
    exact asc_lt h (by rw [Nat.add_mul]; omega) ((chN_iff hn).1 hi)
theorem tow_len {n : Nat} (hn : 2 ≤ n) (l : List ByteArray) : (tow n l).length = st n l.length := by
  unfold tow st; rw [List.length_cons, lvs_len hn]
theorem tow_asc {n : Nat} (hn : 2 ≤ n) {l : List ByteArray} (hl : 1 ≤ l.length ∧ l.length ≤ 256) (h : AscP l) : ∀ i, i < (tow n l).length → AscP (gl (tow n l) i) ∧ 1 ≤ (gl (tow n l) i).length ∧ (gl (tow n l) i).length ≤ 256
  | 0, _ => ⟨h, hl⟩
  | i + 1, hi => by
    obtain ⟨h1, h2, h3⟩ := tow_asc hn hl h i (by omega)
    obtain ⟨h4, h5⟩ := (tow_ok hn 256 l hl.2).1 i hi
    have hc := chN_lt hn h4
    unfold tow
    rw [h5]
    refine ⟨asc_up (by omega) h1, ?_⟩
    rw [up_len]
    unfold tow at h3
    omega
def levelsI (f : Int × List ByteArray) : List (List ByteArray) × Int := if FenP f then (tow f.1.toNat f.2, 0) else ([], 2)
theorem flevels_eq (f : Int × List ByteArray) : fence_Levels f = some (levelsI f) := by
  unfold fence_Levels levelsI
  rw [check_eq]
  simp only [Option.bind_some]
  by_cases hf : FenP f
  · rw [if_pos hf, if_neg (show ¬ ((0 : Int) ≠ 0) by decide), if_pos hf]
    have hb := hf.1
    have := levels_eq (n := f.1.toNat) (by omega) hb.2.2
    rw [show ((f.1.toNat : Nat) : Int) = f.1 by omega] at this
    rw [show f = (f.1, f.2) from rfl, this]; rfl
  · rw [if_neg hf, if_pos (show (2 : Int) ≠ 0 by decide), if_neg hf]
end Go.Proofs.Ytmfppphlhgneeaa
end

section
namespace Go.Proofs.Ytmfppphlhgneeaa
def blk (n : Nat) (l : List ByteArray) (t : Nat) : List ByteArray := (l.drop (t * n)).take n
theorem blk_sub {n : Nat} {l : List ByteArray} {t : Nat} (hn : n ≤ 8) (hl : l.length ≤ 1000) (ht : t * n ≤ l.length) (ht2 : t ≤ 1000) : lsub l (w64 ((t : Int) * (n : Int))) (min (w64 (w64 ((t : Int) + 1) * (n : Int))) (l.length : Int)) = some (blk n l t) := by
  have e1 : (t : Int) * (n : Int) = ((t * n : Nat) : Int) := by simp
  have e2 : ((t : Int) + 1) * (n : Int) = ((t * n + n : Nat) : Int) := by rw [Int.add_mul]; simp
  rw [e1, w64_id (x := ((t * n : Nat) : Int)) (by omega) (by omega), w64_id (x := (t : Int) + 1) (by omega) (by omega), e2, w64_id (x := ((t * n + n : Nat) : Int)) (by omega) (by omega), lsub_ok (by omega) (by omega) (by omega)]
  congr 1
  unfold blk
  rw [Int.toNat_natCast]
  rcases Nat.le_total (t * n + n) l.length with h | h
  · congr 1; omega
  · rw [List.take_of_length_le (by simp; omega), List.take_of_length_le (by simp; omega)]
theorem blk_len (n : Nat) (l : List ByteArray) (t : Nat) : (blk n l t).length = min n (l.length - t * n) := by simp [blk]
theorem blk_gd {n : Nat} {l : List ByteArray} {t j : Nat} (h : j < n) : gd (blk n l t) j = gd l (t * n + j) := by
  simp [blk, gd, List.getD_eq_getElem?_getD, List.getElem?_take_of_lt h]
theorem blk_asc {n : Nat} {l : List ByteArray} (h : AscP l) (t : Nat) : AscP (blk n l t) := by
  refine asc_of (fun i hi => ?_) (fun i hi => ?_)
  · rw [blk_len] at hi
    rw [blk_gd (by omega)]
    exact (h _ (by omega)).1
  · rw [blk_len] at hi
    rw [blk_gd (by omega), blk_gd (by omega)]
    exact asc_lt h (by omega) (by omega)
theorem blk_top {n : Nat} {l : List ByteArray} (h : l.length ≤ n) : blk n l 0 = l := by
  unfold blk
  rw [Nat.zero_mul, List.drop_zero, List.take_of_length_le h]
theorem blk_up {n : Nat} (hn : 1 ≤ n) {l : List ByteArray} (h : AscP l) (hl : 1 ≤ l.length) (w : ByteArray) : lastN (up n l) w (up n l).length * n < l.length ∧
    lastN (up n l) w (up n l).length * n + lastN (blk n l (lastN (up n l) w (up n l).length)) w (blk n l (lastN (up n l) w (up n l).length)).length = lastN l w l.length := by
  obtain ⟨r, h1, h2, h3⟩ := partk h w l.length (Nat.le_refl _)
  obtain ⟨q, g1, g2, g3⟩ := partk (asc_up hn h) w (up n l).length (Nat.le_refl _)
  rw [lastN_eq h2 _ h1 h3, lastN_eq g2 _ g1 g3]
  rw [up_len] at g1 g3
  have hc0 : 0 < chN l.length n := (chN_iff hn).2 (by omega)
  have a1 : q ≠ 0 → (q - 1) * n < r := fun hq => by
    have h4 := g2 (q - 1) (by omega)
    rw [up_gd (by omega)] at h4
    rcases Nat.lt_or_ge ((q - 1) * n) r with h5 | h5
    · exact h5
    · exact absurd (h3 _ h5 ((chN_iff hn).1 (by omega))) h4
  have a2 : r ≤ q * n := by
    rcases Nat.lt_or_ge q (chN l.length n) with h4 | h4
    · have h5 := g3 q (Nat.le_refl _) h4
      rw [up_gd h4] at h5
      rcases Nat.lt_or_ge (q * n) r with h6 | h6
      · exact absurd h5 (h2 _ h6)
      · exact h6
    · have : ¬ q * n < l.length := fun h5 => by have := (chN_iff hn).2 h5; omega
      omega
  have a3 : q ≠ 0 → q * n = (q - 1) * n + n := fun hq => by
    obtain ⟨p, rfl⟩ : ∃ p, q = p + 1 := ⟨q - 1, by omega⟩
    rw [Nat.add_sub_cancel, Nat.add_mul, Nat.one_mul]
  have a4 : q = 0 → r = 0 := fun hq => by rw [hq, Nat.zero_mul] at a2; omega
  have a5 : q = 0 → (q - 1) * n = 0 := fun hq => by rw [hq]; simp
  refine ⟨by by_cases hq : q = 0
             · have := a5 hq; omega
             · have := a1 hq; omega, ?_⟩
  have e := lastN_eq (l := blk n l (q - 1)) (w := w) (r := r - (q - 1) * n) (fun k hk => by
      have hk2 : k < n := by by_cases hq : q = 0
                             · have := a4 hq; omega
                             · have := a3 hq; omega
      rw [blk_gd hk2]; exact h2 _ (by omega)) (blk n l (q - 1)).length (by
      rw [blk_len]
      by_cases hq : q = 0
      · have := a4 hq; omega
      · have := a3 hq; omega) (fun k hk hk2 => by
      rw [blk_len] at hk2
      rw [blk_gd (by omega)]; exact h3 _ (by omega) (by omega))
  rw [e]
  by_cases hq : q = 0
  · have := a4 hq; have := a5 hq; omega
  · have := a1 hq; omega
def pos (L : List (List ByteArray)) (w : ByteArray) (m : Nat) : Nat := if L.length ≤ m then 0 else lastN (gl L m) w (gl L m).length
def trl (L : List (List ByteArray)) (w : ByteArray) : Nat → List Int
  | 0 => []
  | m + 1 => (pos L w (m + 1) : Int) :: trl L w m
theorem trl_len (L : List (List ByteArray)) (w : ByteArray) : ∀ m, (trl L w m).length = m
  | 0 => rfl
  | m + 1 => by simp [trl, trl_len L w m]
structure Twr (n : Nat) (L : List (List ByteArray)) : Prop where
  n2 : 2 ≤ n
  n8 : n ≤ 8
  len : 1 ≤ L.length ∧ L.length ≤ 300
  step : ∀ i, i + 1 < L.length → n < (gl L i).length ∧ gl L (i + 1) = up n (gl L i)
  top : (gl L (L.length - 1)).length ≤ n
  asc : ∀ i, i < L.length → AscP (gl L i) ∧ 1 ≤ (gl L i).length ∧ (gl L i).length ≤ 256
theorem st_256 {n : Nat} (hn : 2 ≤ n) {x : Int} (hx : x ≤ 256) : st n x ≤ 256 := (st_le (b := n) (n := x) (by omega) hx 256 (by omega)).2 (by
  have e : ∀ j : Nat, (2 : Int) ^ j ≤ (n : Int) ^ j := fun j => by
    induction j with
    | zero => simp
    | succ j ih =>
      rw [Int.pow_succ, Int.pow_succ]
      have p1 : 0 < (2 : Int) ^ j := Int.pow_pos (by omega)
      exact Int.mul_le_mul ih (by omega) (by omega) (by omega)
  have := e 256
  have : (256 : Int) ≤ 2 ^ 256 := by decide
  omega)
theorem twr {n : Nat} (hn : 2 ≤ n ∧ n ≤ 8) {l : List ByteArray} (hl : 1 ≤ l.length ∧ l.length ≤ 256) (h : AscP l) : Twr n (tow n l) :=
  ⟨hn.1, hn.2, by rw [tow_len hn.1]; have := st_256 hn.1 (x := l.length) (by omega); have := st_pos n l.length; omega, (tow_ok hn.1 256 l hl.2).1, (tow_ok hn.1 256 l hl.2).2, tow_asc hn.1 hl h⟩
theorem pos_step {n : Nat} {L : List (List ByteArray)} (h : Twr n L) (w : ByteArray) {m : Nat} (hm : m < L.length) : pos L w (m + 1) * n < (gl L m).length ∧ pos L w (m + 1) * n + lastN (blk n (gl L m) (pos L w (m + 1))) w (blk n (gl L m) (pos L w (m + 1))).length = pos L w m ∧ pos L w (m + 1) ≤ 256 := by
  have ha := h.asc m hm
  unfold pos
  rw [if_neg (by omega : ¬ L.length ≤ m)]
  by_cases h1 : L.length ≤ m + 1
  · rw [if_pos h1]
    have ht := h.top
    rw [show L.length - 1 = m by omega] at ht
    rw [blk_top ht, Nat.zero_mul]
    exact ⟨by omega, by omega, by omega⟩
  · rw [if_neg h1, (h.step m (by omega)).2]
    obtain ⟨b1, b2⟩ := blk_up (by have := h.n2; omega : 1 ≤ n) ha.1 ha.2.1 w
    refine ⟨b1, b2, ?_⟩
    have hn := h.n2
    have := Nat.mul_le_mul_left (lastN (up n (gl L m)) w (up n (gl L m)).length) hn
    omega
theorem pos_lt {n : Nat} {L : List (List ByteArray)} (h : Twr n L) (w : ByteArray) (m : Nat) : pos L w m ≤ 256 := by
  unfold pos
  split
  · omega
  · have ha := h.asc m (by omega)
    have := lastN_le (gl L m) w _ ha.2.1
    omega
def bk (L : List (List ByteArray)) : Nat → List (Int × List ByteArray)
  | 0 => []
  | m + 1 => ((m : Int), gl L m) :: bk L m
theorem bkw_L (L : List (List ByteArray)) (hL : L.length ≤ 100000) : ∀ (f m : Nat), m ≤ L.length → m < f → slices_Backward_LLstringLstring_f1_L1 L f ((m : Int) - 1) = some (bk L m)
  | 0, m, _, h => by omega
  | f + 1, m, h1, h2 => by
    show slices_Backward_LLstringLstring_f1_B1 L (slices_Backward_LLstringLstring_f1_L1 L f) _ = _
    unfold slices_Backward_LLstringLstring_f1_B1
    cases m with
    | zero => rw [if_neg (by omega)]; rfl
    | succ m =>
      rw [if_pos (by omega), show (((m + 1 : Nat) : Int) - 1) = (m : Int) by omega, lidx_nat [] (by omega)]
      simp only [Option.bind_some]
      rw [w64_id (by omega) (by omega), bkw_L L hL f m (by omega) (by omega)]
      rfl
theorem back_eq (L : List (List ByteArray)) (hL : L.length ≤ 100000) : slices_Backward_LLstringLstring L = some (bk L L.length) := by
  unfold slices_Backward_LLstringLstring slices_Backward_LLstringLstring_f1
  rw [w64_id (by omega) (by omega), bkw_L L hL big L.length (Nat.le_refl _) (by simp only [big]; omega)]; rfl
theorem probe_L {n : Nat} {L : List (List ByteArray)} (h : Twr n L) (w : ByteArray) (kx : List Int → Int → Option ((List Int) × Int × Bool × Int)) : ∀ (m : Nat) (acc : List Int), m ≤ L.length → acc.length + m ≤ 1000 →
    fence_Probe_L2 kx (n : Int) w (bk L m) acc (pos L w m : Int) = kx (acc ++ trl L w m) (pos L w 0 : Int)
  | 0, acc, _, _ => by simp [bk, trl, fence_Probe_L2]
  | m + 1, acc, h1, h2 => by
    show fence_Probe_B2 kx (n : Int) w (fence_Probe_L2 kx (n : Int) w (bk L m)) ((m : Int), gl L m) acc _ = _
    unfold fence_Probe_B2 fence_blockOf
    obtain ⟨p1, p2, p3⟩ := pos_step h w (by omega : m < L.length)
    have ha := h.asc m (by omega)
    have hn8 := h.n8
    rw [lapp_ok (by simp; omega)]
    dsimp only
    rw [blk_sub hn8 (by omega) (by omega) (by omega)]
    simp only [Option.bind_some]
    rw [last_eq (by rw [blk_len]; omega) (blk_asc ha.1 _)]
    simp only [Option.bind_some]
    have e1 : (pos L w (m + 1) : Int) * (n : Int) = ((pos L w (m + 1) * n : Nat) : Int) := by simp
    have e2 := pos_lt h w m
    rw [e1, w64_id (x := ((pos L w (m + 1) * n : Nat) : Int)) (by omega) (by omega), w64_id (by omega) (by omega), show ((pos L w (m + 1) * n : Nat) : Int) + (lastN (blk n (gl L m) (pos L w (m + 1))) w (blk n (gl L m) (pos L w (m + 1))).length : Int) = (pos L w m : Int) by omega]
    rw [probe_L h w kx m _ (by omega) (by simp; omega)]
    simp [trl]
def probeI (f : Int × List ByteArray) (w : ByteArray) : List Int × Int × Bool × Int :=
  if ¬ FenP f then ([], 0, false, 2) else if ¬ KeyP w then ([], 0, false, 1)
  else (trl (tow f.1.toNat f.2) w (tow f.1.toNat f.2).length, lastN f.2 w f.2.length, decide (gd f.2 (lastN f.2 w f.2.length) = w), 0)
theorem probeI_1 {f : Int × List ByteArray} {w : ByteArray} (h : ¬ FenP f) : probeI f w = ([], 0, false, 2) := by unfold probeI; rw [if_pos h]
theorem probeI_2 {f : Int × List ByteArray} {w : ByteArray} (h : FenP f) (h2 : ¬ KeyP w) : probeI f w = ([], 0, false, 1) := by unfold probeI; rw [if_neg (fun h3 => h3 h), if_pos h2]
theorem probeI_3 {f : Int × List ByteArray} {w : ByteArray} (h : FenP f) (h2 : KeyP w) : probeI f w = (trl (tow f.1.toNat f.2) w (tow f.1.toNat f.2).length, (lastN f.2 w f.2.length : Int), decide (gd f.2 (lastN f.2 w f.2.length) = w), 0) := by unfold probeI; rw [if_neg (fun h3 => h3 h), if_neg (fun h3 => h3 h2)]
theorem pos_0 (n : Nat) (l : List ByteArray) (w : ByteArray) : pos (tow n l) w 0 = lastN l w l.length := by
  unfold pos; rw [if_neg (by unfold tow; simp)]; rfl
theorem pos_top (L : List (List ByteArray)) (w : ByteArray) : pos L w L.length = 0 := by unfold pos; rw [if_pos (Nat.le_refl _)]
theorem fprobe_eq (f : Int × List ByteArray) (w : ByteArray) : fence_Probe f w = some (probeI f w) := by
  unfold fence_Probe
  rw [check_eq, proper_eq]
  simp only [Option.bind_some]
  by_cases hf : FenP f
  · rw [if_pos hf, if_neg (show ¬ ((0 : Int) ≠ 0) by decide)]
    by_cases hk : KeyP w
    · rw [if_neg (nb_t hk), probeI_3 hf hk]
      have hb := hf.1
      obtain ⟨b, l⟩ := f
      dsimp only at hb ⊢
      obtain ⟨n, rfl⟩ : ∃ n : Nat, b = n := ⟨b.toNat, by omega⟩
      rw [Int.toNat_natCast, levels_eq (by omega) hb.2.2]
      simp only [Option.bind_some]
      have T := twr (n := n) (by omega) hb.2 hf.2
      rw [show l :: lvs n 256 l = tow n l from rfl, back_eq _ (by have := T.len; omega)]
      simp only [Option.bind_some]
      have hP := probe_L T w (fence_Probe_J1 w l) (tow n l).length [] (Nat.le_refl _) (by have := T.len; simp; omega)
      rw [pos_top, pos_0] at hP
      rw [show (0 : Int) = ((0 : Nat) : Int) from rfl, hP]
      unfold fence_Probe_J1
      have := lastN_le l w _ hb.2.1
      rw [lidx_nat .empty (by omega)]
      rfl
    · rw [if_pos (nb_f hk), probeI_2 hf hk]
  · rw [if_neg hf, if_pos (show (2 : Int) ≠ 0 by decide), probeI_1 hf]
end Go.Proofs.Ytmfppphlhgneeaa
end

section
namespace Go.Proofs.Ytmfppphlhgneeaa
set_option linter.unusedVariables false
def DiceOK (d : List Int × Int) : Prop := 0 ≤ d.2 ∧ d.2 ≤ 1000 ∧ d.1.length ≤ 300 ∧ ∀ x ∈ d.1, 0 ≤ x ∧ x ≤ 255
theorem dpick {d : List Int × Int} (hd : DiceOK d) {n : Int} (hn : 1 ≤ n) : ∃ v e, play_Dice_Pick d n = some (v, e) ∧ 0 ≤ v ∧ v < n ∧ DiceOK e := by
  obtain ⟨h1, h2, h3, h4⟩ := hd
  unfold play_Dice_Pick
  by_cases hl : (d.1.length : Int) ≤ d.2
  · rw [if_pos hl]; exact ⟨0, d, rfl, by omega, by omega, h1, h2, h3, h4⟩
  · rw [if_neg hl, w64_id (x := d.2 + 1) (by omega) (by omega), show d.2 + 1 - 1 = d.2 from by omega, w64_id (x := d.2) (by omega) (by omega), lidx_ok 0 h1 (by omega), Option.bind_some, nz_ok (by omega), Option.bind_some]
    generalize hx : d.1.getD d.2.toNat 0 = x
    have hm : x ∈ d.1 := by
      rw [← hx, List.getD_eq_getElem?_getD, List.getElem?_eq_getElem (by omega)]
      exact List.getElem_mem _
    have hxr := h4 x hm
    rw [w64_id (x := x) (by omega) (by omega)]
    exact ⟨_, _, rfl, Int.tmod_nonneg _ (by omega), Int.tmod_lt_of_pos _ (by omega), by dsimp only; omega, by dsimp only; omega, h3, h4⟩
theorem dnew {t : List Int} (ht : ∀ x ∈ t, 0 ≤ x ∧ x ≤ 255) : ∃ d, play_New t = some d ∧ DiceOK d := by
  unfold play_New play_New_J1
  by_cases hl : 300 < (t.length : Int)
  · rw [if_pos hl, lsub_ok (by omega) (by omega) (by omega), Option.bind_some]
    refine ⟨_, rfl, by dsimp only; omega, by dsimp only; omega, ?_, fun x hx => ht x ?_⟩
    · simp; omega
    · simp only [Int.toNat_zero, List.drop_zero] at hx
      exact List.mem_of_mem_take hx
  · rw [if_neg hl]
    exact ⟨_, rfl, by dsimp only; omega, by dsimp only; omega, by dsimp only; omega, ht⟩
end Go.Proofs.Ytmfppphlhgneeaa
end

section
namespace Go.Proofs.Ytmfppphlhgneeaa
set_option linter.unusedVariables false
set_option maxRecDepth 100000
theorem lmk_ok {α : Type} {n : Int} {z : α} (h0 : 0 ≤ n) (h1 : n ≤ 16777216) : lmk n z = some (List.replicate n.toNat z) := by unfold lmk; rw [if_pos ⟨h0, h1⟩]
theorem sane35 : law35_sane = some true := by kernel_rfl
def kys : Nat → List ByteArray
  | 0 => []
  | i + 1 => kys i ++ [(ofB ([(wu8 (97 + (wu8 (w64 (2 * (i : Int))))))] : List Int))]
theorem kys_len : ∀ n, (kys n).length = n
  | 0 => rfl
  | n + 1 => by simp [kys, kys_len n]
theorem kys_asc1 : ((List.range 13).all fun n => (fence_ascend (kys n)) == some true) = true := by kernel_rfl
theorem kys_asc {n : Nat} (hn : n ≤ 12) : AscP (kys n) := by
  have h := List.all_eq_true.1 kys_asc1 n (List.mem_range.2 (by omega))
  rw [ascend_eq (by rw [kys_len]; omega)] at h
  have h2 : decide (AscP (kys n)) = true := by simpa using h
  exact of_decide_eq_true h2
theorem dfen_L (z : Int) : ∀ (m fuel : Nat) (d : List Int × Int) (i : Nat), i + m = 12 → m < fuel → DiceOK d →
    ∃ n e, law35_fence_L2 law35_fence_J1 z fuel (i : Int) (kys i) d.1 d.2 = some ((z, kys n), e) ∧ i ≤ n ∧ n ≤ 12 ∧ (i = 0 → 1 ≤ n) ∧ DiceOK e
  | m, 0, _, _, _, h, _ => by omega
  | m, fuel + 1, d, i, hi, hf, hd => by
    rw [law35_fence_L2]
    unfold law35_fence_B2
    obtain ⟨v, e1, h1, a1, b1, c1⟩ := dpick (d := (d.1, d.2)) hd (n := 12) (by omega)
    rw [h1, Option.bind_some]
    dsimp only
    rw [w64_id (x := 1 + v) (by omega) (by omega)]
    split
    · rename_i hlt
      rw [lapp_ok (by simp [kys_len]; omega), Option.bind_some, w64_id (x := (i : Int) + 1) (by omega) (by omega)]
      cases m with
      | zero => omega
      | succ m =>
        obtain ⟨n, e, k1, k2, k3, k4, k5⟩ := dfen_L z m fuel e1 (i + 1) (by omega) (by omega) c1
        exact ⟨n, e, k1, by omega, k3, fun _ => by omega, k5⟩
    · rename_i hlt
      exact ⟨i, e1, rfl, by omega, by omega, fun h => by omega, c1⟩
theorem dfen {d : List Int × Int} (hd : DiceOK d) : ∃ f e, law35_fence d = some (f, e) ∧ FenP f ∧ f.2.length ≤ 12 ∧ DiceOK e := by
  unfold law35_fence
  obtain ⟨v, e1, h1, a1, b1, c1⟩ := dpick hd (n := 3) (by omega)
  rw [h1, Option.bind_some]
  dsimp only
  rw [w64_id (x := 2 + v) (by omega) (by omega)]
  obtain ⟨n, e, k1, k2, k3, k4, k5⟩ := dfen_L (2 + v) 12 big e1 0 rfl (by simp only [big]; omega) c1
  have h0 := k4 rfl
  refine ⟨_, e, k1, ⟨⟨by dsimp only; omega, by dsimp only; rw [kys_len]; omega, by dsimp only; rw [kys_len]; omega⟩, kys_asc k3⟩, by dsimp only; rw [kys_len]; omega, k5⟩
def sN (n : Nat) : List (List ByteArray) → Nat
  | [] => 0
  | x :: xs => chN x.length n + sN n xs
theorem sN_drop {n : Nat} {L : List (List ByteArray)} {i : Nat} (h : i < L.length) : sN n (L.drop i) = chN (gl L i).length n + sN n (L.drop (i + 1)) := by
  rw [List.drop_eq_getElem_cons h]
  show chN _ n + _ = _
  rw [show gl L i = L[i] by unfold gl; rw [List.getD_eq_getElem?_getD, List.getElem?_eq_getElem h]; rfl]
theorem sN_le {n : Nat} (hn : 1 ≤ n) : ∀ (L : List (List ByteArray)), (∀ x ∈ L, x.length ≤ 256) → sN n L ≤ 256 * L.length
  | [], _ => by simp [sN]
  | x :: xs, h => by
    have h1 := sN_le hn xs fun y hy => h y (List.mem_cons_of_mem _ hy)
    have h2 := h x List.mem_cons_self
    have h3 := chN_le (L := x.length) hn
    simp only [sN, List.length_cons]
    omega
theorem gl_mem {L : List (List ByteArray)} {x : List ByteArray} (h : x ∈ L) : ∃ i, i < L.length ∧ gl L i = x := by
  obtain ⟨i, h1, h2⟩ := List.mem_iff_getElem.1 h
  exact ⟨i, h1, by unfold gl; rw [List.getD_eq_getElem?_getD, List.getElem?_eq_getElem h1]; exact h2⟩
theorem twr_le {n : Nat} {L : List (List ByteArray)} (h : Twr n L) (i : Nat) : sN n (L.drop i) ≤ 76800 := by
  have h1 := sN_le (n := n) (by have := h.n2; omega) (L.drop i) fun x hx => by
    obtain ⟨j, h1, h2⟩ := gl_mem (List.mem_of_mem_drop hx)
    rw [← h2]
    exact (h.asc j h1).2.2
  have h2 := h.len
  rw [List.length_drop] at h1
  omega
theorem fst35_L {n : Nat} {L : List (List ByteArray)} (h : Twr n L) : ∀ (m fuel : Nat) (v : List Int), m ≤ L.length → m < fuel → v.length = L.length → (∀ i, m ≤ i → i < L.length → v.getD i 0 = sN n (L.drop (i + 1))) →
    ∃ r, lookup_firsts_L1 L (n : Int) fuel (sN n (L.drop m) : Int) ((m : Int) - 1) v = some r ∧ r.length = L.length ∧ ∀ i, i < L.length → r.getD i 0 = sN n (L.drop (i + 1))
  | m, 0, _, _, h, _, _ => by omega
  | 0, fuel + 1, v, hm, hf, hv, hg => by
    rw [lookup_firsts_L1]
    unfold lookup_firsts_B1
    rw [if_neg (by omega)]
    exact ⟨v, rfl, hv, fun i hi => hg i (by omega) hi⟩
  | m + 1, fuel + 1, v, hm, hf, hv, hg => by
    rw [lookup_firsts_L1]
    unfold lookup_firsts_B1
    have h2 := h.n2
    have h8 := h.n8
    have hl := h.len
    have ha := h.asc m (by omega)
    have hs := twr_le h m
    have hs' := twr_le h (m + 1)
    have hd := sN_drop (n := n) (L := L) (i := m) (by omega)
    rw [show ((m + 1 : Nat) : Int) - 1 = (m : Int) from by omega, if_pos (by omega), lidx_nat 0 (by omega), Option.bind_some, lupd_ok (by omega) (by omega), Option.bind_some, lidx_nat [] (by omega), Option.bind_some, nz_of (by omega), Option.bind_some]
    rw [show L.getD m [] = gl L m from rfl, w64_ceil (by omega) (by omega) (by omega) (by omega)]
    have hc : ((gl L m).length + (n : Int) - 1) / (n : Int) = (chN (gl L m).length n : Int) := by
      rcases chN_int (L := (gl L m).length) (n := n) with h3 | h3
      · exact h3.symm
      · omega
    rw [hc, w64_id (x := (m : Int) - 1) (by omega) (by omega), w64_id (by omega) (by omega), show ((sN n (L.drop (m + 1)) : Nat) : Int) + (chN (gl L m).length n : Int) = (sN n (L.drop m) : Int) from by omega]
    refine fst35_L h m fuel _ (by omega) (by omega) (by simp [hv]) fun i h3 h4 => ?_
    rw [Int.toNat_natCast, List.getD_eq_getElem?_getD, List.getElem?_set]
    by_cases he : m = i
    · subst he; rw [if_pos rfl, if_pos (by omega)]; rfl
    · rw [if_neg he, ← List.getD_eq_getElem?_getD]
      exact hg i (by omega) h4
theorem firsts35 {n : Nat} {L : List (List ByteArray)} (h : Twr n L) : ∃ r, lookup_firsts L (n : Int) = some r ∧ r.length = L.length ∧ ∀ i, i < L.length → r.getD i 0 = sN n (L.drop (i + 1)) := by
  unfold lookup_firsts
  have hl := h.len
  rw [lmk_ok (by omega) (by omega), Option.bind_some, w64_id (by omega) (by omega)]
  have e : (0 : Int) = ((sN n (L.drop L.length) : Nat) : Int) := by rw [List.drop_length]; rfl
  have := fst35_L h L.length big (List.replicate (L.length : Int).toNat 0) (Nat.le_refl _) (by simp only [big]; omega) (by simp) (fun i h1 h2 => by omega)
  rw [← e] at this
  exact this
theorem rev_L : ∀ (m fuel : Nat) (v : List Int) (i : Nat) (j : Int), j + 1 - i ≤ m → m < fuel → v.length ≤ 100000 → (i : Int) + j + 1 = v.length → 
    ∃ r, slices_Reverse_Lintint_L1 fuel (i : Int) j v = some r ∧ r.length = v.length ∧ ∀ k, k < v.length → r.getD k 0 = if i ≤ k ∧ (k : Int) ≤ j then v.getD (v.length - 1 - k) 0 else v.getD k 0
  | m, 0, _, _, _, _, h, _, _ => by omega
  | m, fuel + 1, v, i, j, hm, hf, hv, hij => by
    rw [slices_Reverse_Lintint_L1]
    unfold slices_Reverse_Lintint_B1
    split
    · rename_i hlt
      obtain ⟨q, rfl⟩ : ∃ q : Nat, j = (q : Int) := ⟨j.toNat, by omega⟩
      rw [lidx_nat 0 (by omega), Option.bind_some, lidx_nat 0 (by omega), Option.bind_some, Option.bind_some, lupd_ok (by omega) (by omega), Option.bind_some, lidx_nat 0 (by simp; omega), Option.bind_some, lupd_ok (by omega) (by simp; omega), Option.bind_some, w64_id (by omega) (by omega), w64_id (by omega) (by omega), Int.toNat_natCast, Int.toNat_natCast]
      have e1 : (i : Int) + 1 = ((i + 1 : Nat) : Int) := by omega
      rw [e1]
      cases m with
      | zero => omega
      | succ m =>
      obtain ⟨r, h1, h2, h3⟩ := rev_L m fuel ((v.set i (v.getD q 0)).set q (v.getD i 0)) (i + 1) ((q : Int) - 1) (by omega) (by omega) (by simp; omega) (by simp; omega)
      refine ⟨r, h1, by rw [h2]; simp, fun k hk => ?_⟩
      rw [h3 k (by simpa using hk)]
      have hset : ∀ t, t < v.length → ((v.set i (v.getD q 0)).set q (v.getD i 0)).getD t 0 = if t = q then v.getD i 0 else if t = i then v.getD q 0 else v.getD t 0 := fun t ht => by
        rw [List.getD_eq_getElem?_getD (l := (v.set i (v.getD q 0)).set q (v.getD i 0)), List.getElem?_set]
        by_cases h4 : q = t
        · rw [if_pos h4, if_pos (by rw [List.length_set]; omega), if_pos h4.symm]; rfl
        · have h4' : ¬ t = q := fun h => h4 h.symm
          rw [if_neg h4, List.getElem?_set, if_neg h4']
          by_cases h5 : i = t
          · rw [if_pos h5, if_pos (by omega), if_pos h5.symm]; rfl
          · have h5' : ¬ t = i := fun h => h5 h.symm
            rw [if_neg h5, if_neg h5', ← List.getD_eq_getElem?_getD]
      simp only [List.length_set]
      by_cases c1 : i + 1 ≤ k ∧ (k : Int) ≤ (q : Int) - 1
      · rw [if_pos c1, if_pos (by omega), hset _ (by omega), if_neg (by omega), if_neg (by omega)]
      · rw [if_neg c1, hset _ hk]
        by_cases c2 : k = q
        · rw [if_pos c2, if_pos (by omega), show v.length - 1 - k = i by omega]
        · rw [if_neg c2]
          by_cases c3 : k = i
          · rw [if_pos c3, if_pos (by omega), show v.length - 1 - k = q by omega]
          · rw [if_neg c3, if_neg (by omega)]
    · rename_i hlt
      refine ⟨v, rfl, rfl, fun k hk => ?_⟩
      split
      · rename_i h
        rw [show v.length - 1 - k = k by omega]
      · rfl
theorem rev35 {v : List Int} (hv : v.length ≤ 100000) : ∃ r, slices_Reverse_Lintint v = some r ∧ r.length = v.length ∧ ∀ k, k < v.length → r.getD k 0 = v.getD (v.length - 1 - k) 0 := by
  unfold slices_Reverse_Lintint
  rw [w64_id (by omega) (by omega)]
  obtain ⟨r, h1, h2, h3⟩ := rev_L v.length big v 0 ((v.length : Int) - 1) (by omega) (by simp only [big]; omega) hv (by omega)
  exact ⟨r, h1, h2, fun k hk => by rw [h3 k hk, if_pos (by omega)]⟩
abbrev tw (f : Int × List ByteArray) : List (List ByteArray) := tow f.1.toNat f.2
theorem twF {f : Int × List ByteArray} (h : FenP f) : Twr f.1.toNat (tw f) := by
  have hb := h.1
  exact twr (by omega) hb.2 h.2
theorem rows_ok {f : Int × List ByteArray} (h : FenP f) : ∃ r, lookup_Rows f = some (r, 0) ∧ r.length = (tw f).length ∧ ∀ k, k < (tw f).length → r.getD k 0 = sN f.1.toNat ((tw f).drop ((tw f).length - k)) := by
  unfold lookup_Rows
  have hT := twF h
  have hb := h.1
  rw [flevels_eq, Option.bind_some, show levelsI f = (tw f, 0) by unfold levelsI; rw [if_pos h]]
  dsimp only
  rw [if_neg (by omega)]
  obtain ⟨r, h1, h2, h3⟩ := firsts35 hT
  rw [show ((f.1.toNat : Nat) : Int) = f.1 by omega] at h1
  have hl := hT.len
  obtain ⟨q, k1, k2, k3⟩ := rev35 (v := r) (by omega)
  rw [h1, Option.bind_some, k1, Option.bind_some]
  refine ⟨q, rfl, by omega, fun k hk => ?_⟩
  rw [k3 k (by omega), h3 _ (by omega), show r.length - 1 - k + 1 = (tw f).length - k by omega]
theorem trl_get (L : List (List ByteArray)) (w : ByteArray) : ∀ (m k : Nat), k < m → (trl L w m).getD k 0 = pos L w (m - k)
  | 0, k, h => by omega
  | m + 1, 0, _ => rfl
  | m + 1, k + 1, h => by
    show (trl L w m).getD k 0 = _
    rw [trl_get L w m k (by omega), show m + 1 - (k + 1) = m - k by omega]
theorem walk_L (z1 : Int) (z2 : Bool) (a c : List Int) (hl : a.length = c.length) (hx : ∀ k, k < a.length → 0 ≤ a.getD k 0 ∧ a.getD k 0 ≤ 1000000 ∧ 0 ≤ c.getD k 0 ∧ c.getD k 0 ≤ 1000000) : ∀ (xs : List Int) (i : Nat) (v : List Int), c.drop i = xs → v.length = c.length → i ≤ c.length → (∀ k, k < c.length → v.getD k 0 = if k < i then c.getD k 0 + a.getD k 0 else c.getD k 0) →
    ∃ r, lookup_Walk_L1 z1 z2 a xs i v = some (r, z1, z2, 0) ∧ r.length = c.length ∧ ∀ k, k < c.length → r.getD k 0 = c.getD k 0 + a.getD k 0
  | [], i, v, hd, hv, hi, hg => by
    have : c.length ≤ i := List.drop_eq_nil_iff.1 hd
    exact ⟨v, rfl, hv, fun k hk => by rw [hg k hk, if_pos (by omega)]⟩
  | x :: xs, i, v, hd, hv, hi, hg => by
    have hlt : i < c.length := by
      rcases Nat.lt_or_ge i c.length with h | h
      · exact h
      · rw [List.drop_eq_nil_iff.2 h] at hd; cases hd
    show ∃ r, lookup_Walk_B1 z1 z2 a (lookup_Walk_L1 z1 z2 a xs (i + 1)) x i v = _ ∧ _
    unfold lookup_Walk_B1
    have hb := hx i (by omega)
    rw [lidx_nat 0 (by omega), Option.bind_some, lidx_nat 0 (by omega), Option.bind_some, Option.bind_some, lupd_ok (by omega) (by omega), Option.bind_some, Int.toNat_natCast, hg i hlt, if_neg (by omega), w64_id (by omega) (by omega)]
    refine walk_L z1 z2 a c hl hx xs (i + 1) _ (by rw [← List.drop_drop, hd]; rfl) (by simp [hv]) (by omega) fun k hk => ?_
    rw [List.getD_eq_getElem?_getD, List.getElem?_set]
    by_cases h4 : i = k
    · subst h4; rw [if_pos rfl, if_pos (by omega), if_pos (by omega)]; rfl
    · rw [if_neg h4, ← List.getD_eq_getElem?_getD, hg k hk]
      by_cases h5 : k < i
      · rw [if_pos h5, if_pos (by omega)]
      · rw [if_neg h5, if_neg (by omega)]
theorem walk_ok {f : Int × List ByteArray} (h : FenP f) {w : ByteArray} (hw : KeyP w) :
    ∃ r, lookup_Walk f w = some (r, (lastN f.2 w f.2.length : Int), decide (gd f.2 (lastN f.2 w f.2.length) = w), 0) ∧ r.length = (tw f).length ∧
      ∀ k, k < (tw f).length → r.getD k 0 = (pos (tw f) w ((tw f).length - k) : Int) + sN f.1.toNat ((tw f).drop ((tw f).length - k)) := by
  unfold lookup_Walk
  have hT := twF h
  have hl := hT.len
  rw [fprobe_eq, Option.bind_some, probeI_3 h hw]
  dsimp only
  rw [if_neg (by omega)]
  obtain ⟨r, h1, h2, h3⟩ := rows_ok h
  rw [h1, Option.bind_some]
  dsimp only
  rw [if_neg (by omega)]
  have h4 : (trl (tw f) w (tw f).length).length = (tw f).length := trl_len ..
  unfold slices_Clone_Lintint
  rw [lapp_ok (by rw [List.length_nil, h4]; omega), Option.bind_some, Option.bind_some, List.nil_append]
  obtain ⟨q, k1, k2, k3⟩ := walk_L (lastN f.2 w f.2.length : Int) (decide (gd f.2 (lastN f.2 w f.2.length) = w)) r (trl (tw f) w (tw f).length) (by omega) (fun k hk => by
    rw [trl_get _ _ _ _ (by omega), h3 k (by omega)]
    have := pos_lt hT w ((tw f).length - k)
    have := twr_le hT ((tw f).length - k)
    omega) (trl (tw f) w (tw f).length) 0 (trl (tw f) w (tw f).length) rfl rfl (by omega) (fun k hk => by rw [if_neg (by omega)])
  refine ⟨q, k1, by omega, fun k hk => ?_⟩
  rw [k3 k (by omega), trl_get _ _ _ _ (by omega), h3 k hk]
end Go.Proofs.Ytmfppphlhgneeaa
end
