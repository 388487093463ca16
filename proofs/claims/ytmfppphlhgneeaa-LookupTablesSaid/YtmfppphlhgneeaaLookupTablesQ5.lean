/- What the proof needs, gathered by wip/gen/shake.py. -/
import Derived.Calls
import Derived.Deep.Quiet
import Derived.Below
import Derived.Laws.AppendOwn
import Derived.WalkKit
import Derived.Laws.OwnMore
import Derived.Deep.Slices
import Derived.ChangeOld
import Derived.ArgAppend
import Derived.RangeFuncIn
import Derived.RangeFuncRecord
import Derived.RangeFuncLeaves
import Derived.Laws.MakeOwn
import Derived.IntWalk
import Derived.Laws.IdiomStrings
import Derived.Laws.Cover3
import Derived.Laws.CopyOwn
import Derived.MapKept
import Derived.RangeFuncNested
import Derived.Test.YtmfppphlhgneeaaRows
import Derived.ProofKit
import Derived.OpenShut
import Derived.ShutString
import Derived.Test.YtmfppphlhgneeaaLookupTablesQ4

section
namespace Go.Proofs.Ytmfppphlhgneeaa
open Go.RowKit
set_option linter.unusedSimpArgs false
set_option linter.unusedVariables false
set_option synthInstance.maxSize 2000
set_option synthInstance.maxHeartbeats 400000
set_option maxHeartbeats 4000000 in
set_option maxRecDepth 100000 in
theorem ref20_Build_c {Fs : List Hp} {G : Hp} {x0_0 : Int} {a0_1 : Option Addr} {k0_1 : Nat} {x0_1 : List (Int × Int)} {x1 : Int} {a2 : Option Addr} {k2 : Nat} {x2 : List (ByteArray × Int)} {r : (((Int × (List (Int × Int))) × Int × (List (List (ByteArray × Int)))) × Int)} (hG : G ∈ Fs) (s0_1 : SlR (Rep.pair (Rep.int .i64) (Rep.int .i64)) G a0_1 k0_1 x0_1) (s2 : SlR (Rep.pair Rep.str (Rep.int .i64)) G a2 k2 x2) (h : ref20_Build (x0_0, x0_1) x1 x2 = some r) : RetW Try.prog 19 #[.agg #[.int .i64 x0_0, .slice a0_1 x0_1.length k0_1], .int .i64 x1, .slice a2 x2.length k2] Fs [] [] (fun v bo so G => ∃ a0 : Option Addr, ∃ k0 : Nat, ∃ a1 : Option Addr, ∃ k1 : Nat, v = .tuple #[.agg #[.int .i64 r.1.1.1, .slice a0 r.1.1.2.length k0, .int .i64 r.1.2.1, .slice a1 r.1.2.2.length k1], .int .i64 r.2] ∧ bo = [] ∧ so = [] ∧ SlR (Rep.pair (Rep.int .i64) (Rep.int .i64)) G a0 k0 r.1.1.2 ∧ SlR (Rep.sl (Rep.pair Rep.str (Rep.int .i64))) G a1 k1 r.1.2.2) := by
 unfold ref20_Build at h
 try dsimp only at h
 refine RetW.of (vs := [_, _, _]) Try.func19 rfl Try.ntmps19 [(0, _), (1, _), (2, _)] ⟨rfl, rfl, rfl, trivial⟩ rfl hG fun w0 S0 hS0 B0 => ?_
 refine Cov.seq ?_;refine Cov.region rfl ?_
 refine Cov.box [_, _] .ro rfl rfl rfl (fun b1 hb1 => ?_)
 refine Cov.alloc .ro ty31 rfl (fun b2 hb2 => ?_)
 refine Cov.q .ro (.assign rfl) rfl ?_;refine Cov.region_end ?_;refine Cov.seq ?_;refine Cov.seq ?_;refine Cov.region rfl ?_;refine Cov.q .ro (.load_own_a 1 [_, _] rfl rfl ty28 rfl) rfl ?_
 obtain ⟨u3, hu3, r4⟩ := bind_some h; clear h
 refine Cov.callS (b1 := []) (b2 := [_, _]) (s1 := []) [_] [] .ro rfl rfl Try.call37 rfl rfl (ref19_Check_c (G := G) List.mem_cons_self s0_1 hu3) rfl (fun v6 bo so h5 => ?_)
 obtain ⟨rfl, rfl, rfl⟩ := h5
 refine Cov.same (bl' := [_, _]) (sl' := []) rfl rfl rfl ?_;refine Cov.q .ro (.neq rfl rfl) rfl ?_;refine Cov.region_end ?_
 refine Cov.cond_dec rfl (fun c7 => ?_) (fun c7 => ?_)
 ·have r8 := ifT r4 c7; clear r4
  refine Cov.seq ?_;refine Cov.region rfl ?_;refine Cov.q .ro (.build [_, _, _, _] [] ty31 pl31 rfl rfl) rfl ?_;refine Cov.store 0 [_, _, _, _] [_, _] .ro rfl rfl rfl ty31 rfl rfl rfl rfl ?_;refine Cov.q .ro (.assign rfl) rfl ?_;refine Cov.region_end ?_
  cases r8
  refine Cov.retWD 2 (c := ⟨19, none⟩) (.inr ⟨_, rfl⟩) [.cell 6 31, .tmp 7] [_, _] rfl Try.func19 Try.results19 ⟨RV.cell_a 0 [_, _, _, _] rfl rfl ty31 rfl, RV.tmp rfl, trivial⟩ (fun _ h => List.mem_cons_of_mem _ h) List.mem_cons_self B0 (by subst hS0; simp [blks]) (fun G' hg => ⟨none, 0, none, 0, rfl, rfl, rfl, (SlR.mono hg (SlR.nil (Rp' := (Rep.pair (Rep.int .i64) (Rep.int .i64))))), (SlR.mono hg (SlR.nil (Rp' := (Rep.sl (Rep.pair Rep.str (Rep.int .i64))))))⟩)
 ·have r9 := ifF r4 c7; clear r4
  refine Cov.skip ?_;refine Cov.seq ?_;refine Cov.seq ?_;refine Cov.region rfl ?_;refine Cov.q .ro (.move rfl) rfl ?_;refine Cov.q .ro (.lss rfl rfl) rfl ?_;refine Cov.q .ro (.move rfl) rfl ?_;refine Cov.cutR 3 (β := Unit) (fun y => [(33, .bool (decide ((x1 < 1) ∨ (8 < x1))))]) [(1, _), (2, _), (3, _), (6, _)] (fun y => G :: Fs) (fun y => []) [_, _] (fun y => []) [] (fun y => True) ⟨rfl, rfl, rfl, rfl, trivial⟩ [0, 1] rfl [] rfl ?_ ?_
  ·rintro _ _
   refine Cov.prune [(33, .bool (decide ((x1 < 1) ∨ (8 < x1)))), (1, _), (2, _), (3, _), (6, _)] ⟨rfl, rfl, rfl, rfl, rfl, trivial⟩ ?_;refine Cov.same (bl' := [_, _]) (sl' := []) (Fs' := G :: Fs) rfl rfl rfl ?_;refine Cov.region_end ?_
   refine Cov.cond_dec rfl (fun c14 => ?_) (fun c14 => ?_)
   ·have r15 := ifT r9 c14; clear r9
    refine Cov.seq ?_;refine Cov.region rfl ?_;refine Cov.q .ro (.build [_, _, _, _] [] ty31 pl31 rfl rfl) rfl ?_;refine Cov.store 0 [_, _, _, _] [_, _] .ro rfl rfl rfl ty31 rfl rfl rfl rfl ?_;refine Cov.q .ro (.assign rfl) rfl ?_;refine Cov.region_end ?_
    cases r15
    refine Cov.retWD 2 (c := ⟨19, none⟩) (.inr ⟨_, rfl⟩) [.cell 6 31, .tmp 7] [_, _] rfl Try.func19 Try.results19 ⟨RV.cell_a 0 [_, _, _, _] rfl rfl ty31 rfl, RV.tmp rfl, trivial⟩ (fun _ h => List.mem_cons_of_mem _ h) List.mem_cons_self B0 (by subst hS0; simp [blks]) (fun G' hg => ⟨none, 0, none, 0, rfl, rfl, rfl, (SlR.mono hg (SlR.nil (Rp' := (Rep.pair (Rep.int .i64) (Rep.int .i64))))), (SlR.mono hg (SlR.nil (Rp' := (Rep.sl (Rep.pair Rep.str (Rep.int .i64))))))⟩)
   ·have r16 := ifF r9 c14; clear r9
    refine Cov.skip ?_;refine Cov.seq ?_;refine Cov.seq ?_;refine Cov.region rfl ?_;refine Cov.q .ro (.move rfl) rfl ?_;refine Cov.q .ro (.len_sl rfl rfl sl32) rfl ?_;refine Cov.q .ro (.gtr rfl rfl) rfl ?_;refine Cov.region_end ?_
    refine Cov.cond_dec rfl (fun c17 => ?_) (fun c17 => ?_)
    ·have r18 := ifT r16 c17; clear r16
     refine Cov.seq ?_;refine Cov.region rfl ?_;refine Cov.q .ro (.build [_, _, _, _] [] ty31 pl31 rfl rfl) rfl ?_;refine Cov.store 0 [_, _, _, _] [_, _] .ro rfl rfl rfl ty31 rfl rfl rfl rfl ?_;refine Cov.q .ro (.assign rfl) rfl ?_;refine Cov.region_end ?_
     cases r18
     refine Cov.retWD 2 (c := ⟨19, none⟩) (.inr ⟨_, rfl⟩) [.cell 6 31, .tmp 7] [_, _] rfl Try.func19 Try.results19 ⟨RV.cell_a 0 [_, _, _, _] rfl rfl ty31 rfl, RV.tmp rfl, trivial⟩ (fun _ h => List.mem_cons_of_mem _ h) List.mem_cons_self B0 (by subst hS0; simp [blks]) (fun G' hg => ⟨none, 0, none, 0, rfl, rfl, rfl, (SlR.mono hg (SlR.nil (Rp' := (Rep.pair (Rep.int .i64) (Rep.int .i64))))), (SlR.mono hg (SlR.nil (Rp' := (Rep.sl (Rep.pair Rep.str (Rep.int .i64))))))⟩)
    ·have r19 := ifF r16 c17; clear r16
     refine Cov.skip ?_;refine Cov.seq ?_;refine Cov.region rfl ?_;refine Cov.q .ro (.assign rfl) rfl ?_;refine Cov.region_end ?_;refine Cov.seq ?_;refine Cov.seq ?_;refine Cov.region rfl ?_;refine Cov.q .ro (.move rfl) rfl ?_
     refine Cov.q .ro (.len_sl rfl rfl sl32) rfl ?_;refine Cov.q .ro (.move rfl) rfl ?_;refine Cov.region_end ?_;refine Cov.cutB (β := (List (ByteArray × Int)) × Option Addr × Nat × List Value × Int × Int × Int) (fun y => [(8, .slice y.2.1 y.1.length y.2.2.1)]) [(1, _), (3, _), (6, _)] (fun y => G :: Fs) (fun y => [(b2, .cells #[.int .i64 y.2.2.2.2.1, .slice none 0 0, .int .i64 y.2.2.2.2.2.1, .slice none 0 0] 31 (0, 0)), (b1, .cells #[.int .i64 y.2.2.2.2.2.2, .slice a0_1 x0_1.length k0_1] 28 (0, 0))]) [] (fun y => [.s (.slice y.2.1 y.1.length y.2.2.1) 63 2 y.1.length y.2.2.2.1]) [] (fun y => OL (Rep.pair Rep.str (Rep.int .i64)) G y.2.2.2.1 y.1 ∧ (ref20_Build_J6 x1 x0_1) y.1 y.2.2.2.2.1 y.2.2.2.2.2.1 y.2.2.2.2.2.2 = some r) ⟨rfl, rfl, rfl, trivial⟩ [] rfl [] rfl ?_ ?_
     ·intro y hI
      obtain ⟨v987, a988, k989, cs990, v993, v994, v995⟩ := y
      obtain ⟨o991, r997⟩ := hI
      try dsimp only at o991 r997
      refine Cov.prune [(8, .slice a988 v987.length k989), (1, _), (3, _), (6, _)] ⟨rfl, rfl, rfl, rfl, trivial⟩ ?_;refine Cov.same (bl' := [(b2, .cells #[.int .i64 v993, .slice none 0 0, .int .i64 v994, .slice none 0 0] 31 (0, 0)), (b1, .cells #[.int .i64 v995, .slice a0_1 x0_1.length k0_1] 28 (0, 0))]) (sl' := [.s (.slice a988 v987.length k989) 63 2 v987.length cs990]) (Fs' := G :: Fs) rfl rfl rfl ?_
      unfold ref20_Build_J6 at r997
      try dsimp only at r997
      refine Cov.seq ?_;refine Cov.region rfl ?_;refine Cov.q .ro (.assign rfl) rfl ?_;refine Cov.region_end ?_;refine Cov.seq ?_;refine Cov.seq ?_;refine Cov.region rfl ?_;refine Cov.q .ro (.move rfl) rfl ?_;refine Cov.q .ro (.len_sl rfl rfl sl32) rfl ?_
      refine Cov.q .ro (.move rfl) rfl ?_;refine Cov.region_end ?_;refine Cov.cutB (β := Hp × List (List Int) × Option Addr × Nat × List Value × Int × Int × Int) (fun y => [(14, .slice y.2.2.1 y.2.1.length y.2.2.2.1)]) [(8, _), (1, _), (3, _), (6, _)] (fun y => y.1 :: Fs) (fun y => [(b2, .cells #[.int .i64 y.2.2.2.2.2.1, .slice none 0 0, .int .i64 y.2.2.2.2.2.2.1, .slice none 0 0] 31 (0, 0)), (b1, .cells #[.int .i64 y.2.2.2.2.2.2.2, .slice a0_1 x0_1.length k0_1] 28 (0, 0))]) [] (fun y => [.s (.slice y.2.2.1 y.2.1.length y.2.2.2.1) 39 1 y.2.1.length y.2.2.2.2.1]) [_] (fun y => HpLe G y.1 ∧ Bd w0 S0 Fs y.1 ∧ OL (Rep.sl (Rep.int .i64)) y.1 y.2.2.2.2.1 y.2.1 ∧ (ref20_Build_J4 x1 x0_1 v987) y.2.1 y.2.2.2.2.2.1 y.2.2.2.2.2.2.1 y.2.2.2.2.2.2.2 = some r) ⟨rfl, rfl, rfl, rfl, trivial⟩ [] rfl [0] rfl ?_ ?_
      ·intro y hI
       obtain ⟨G1134, v1138, a1139, k1140, cs1141, v1144, v1145, v1146⟩ := y
       obtain ⟨e1135, B1136, o1142, r1148⟩ := hI
       try dsimp only at e1135 B1136 o1142 r1148
       refine Cov.prune [(14, .slice a1139 v1138.length k1140), (8, _), (1, _), (3, _), (6, _)] ⟨rfl, rfl, rfl, rfl, rfl, trivial⟩ ?_;refine Cov.same (bl' := [(b2, .cells #[.int .i64 v1144, .slice none 0 0, .int .i64 v1145, .slice none 0 0] 31 (0, 0)), (b1, .cells #[.int .i64 v1146, .slice a0_1 x0_1.length k0_1] 28 (0, 0))]) (sl' := [.s (.slice a1139 v1138.length k1140) 39 1 v1138.length cs1141, _]) (Fs' := G1134 :: Fs) rfl rfl rfl ?_
       unfold ref20_Build_J4 at r1148
       try dsimp only at r1148
       refine Cov.seq ?_;refine Cov.region rfl ?_;refine Cov.q .ro (.move rfl) rfl ?_;refine Cov.q .ro (.fieldAddr 0 rfl fl28_0 ty3.sz rfl) rfl ?_;refine Cov.q .ro (.load_own 1 rfl rfl ty3 rfl) rfl ?_;refine Cov.q .ro (.move rfl) rfl ?_
       refine Cov.freezeR 0 rfl rfl o1142 [_] rfl B1136 (fun G1152 e1153 B1154 s1155 => ?_)
       obtain ⟨u1157, hu1157, r1158⟩ := bind_some r1148; clear r1148
       refine Cov.callS (b1 := []) (b2 := [_, _]) (s1 := []) [_, _, _] [] .ro rfl rfl Try.call40 rfl rfl (ref19_First_c (G := G1152) List.mem_cons_self s1155 hu1157) rfl (fun v1160 bo so h1159 => ?_)
       obtain ⟨a1162, k1163, cs1164, rfl, rfl, rfl, o1165⟩ := h1159
       refine Cov.same (bl' := [_, _]) (sl' := [_, _]) rfl rfl rfl ?_;refine Cov.q .ro (.move rfl) rfl ?_;refine Cov.q .ro (.extract rfl rfl) rfl ?_;refine Cov.q .ro (.extract rfl rfl) rfl ?_;refine Cov.q .ro (.assign rfl) rfl ?_;refine Cov.q .ro (.assign rfl) rfl ?_;refine Cov.region_end ?_;refine Cov.seq ?_;refine Cov.seq ?_
       refine Cov.region rfl ?_;refine Cov.q .ro (.move rfl) rfl ?_;refine Cov.q .ro (.not rfl) rfl ?_;refine Cov.region_end ?_
       refine Cov.cond rfl (fun c1166 => ?_) (fun c1166 => ?_)
       ·have r1167 := ifT r1158 c1166; clear r1158
        refine Cov.seq ?_;refine Cov.region rfl ?_;refine Cov.q .ro (.build [_, _, _, _] [] ty31 pl31 rfl rfl) rfl ?_;refine Cov.store 0 [_, _, _, _] [_, _] .ro rfl rfl rfl ty31 rfl rfl rfl rfl ?_;refine Cov.q .ro (.assign rfl) rfl ?_;refine Cov.region_end ?_;refine Cov.prune [(6, _), (7, _)] ⟨rfl, rfl, trivial⟩ ?_
        cases r1167
        refine Cov.drop 0 2 _ [] rfl rfl ?_
        refine Cov.retWD 2 (c := ⟨19, none⟩) (.inr ⟨_, rfl⟩) [.cell 6 31, .tmp 7] [_, _] rfl Try.func19 Try.results19 ⟨RV.cell_a 0 [_, _, _, _] rfl rfl ty31 rfl, RV.tmp rfl, trivial⟩ (fun _ h => List.mem_cons_of_mem _ h) List.mem_cons_self B1154 (by subst hS0; simp [blks]) (fun G' hg => ⟨none, 0, none, 0, rfl, rfl, rfl, (SlR.mono hg (SlR.nil (Rp' := (Rep.pair (Rep.int .i64) (Rep.int .i64))))), (SlR.mono hg (SlR.nil (Rp' := (Rep.sl (Rep.pair Rep.str (Rep.int .i64))))))⟩)
       ·have r1168 := ifBF r1158 c1166; clear r1158
        refine Cov.skip ?_;refine Cov.seq ?_;refine Cov.cutG (β := Nat × Int × (List (Int × Int)) × Option Addr × Nat × List Value × Int × (List (List (ByteArray × Int))) × Option Addr × Nat × List NE × List Value) (fun y => [(21, .pointer (some ⟨y.1, 0, none⟩))]) [(8, _), (6, _), (19, _)] (fun y => G1152 :: Fs) (fun y => [(y.1, .cells #[.int .i64 y.2.1, .slice y.2.2.2.1 y.2.2.1.length y.2.2.2.2.1, .int .i64 y.2.2.2.2.2.2.1, .slice y.2.2.2.2.2.2.2.2.1 y.2.2.2.2.2.2.2.1.length y.2.2.2.2.2.2.2.2.2.1] 31 (0, 0))]) [_, _] (fun y => [.s (.slice y.2.2.2.1 y.2.2.1.length y.2.2.2.2.1) 70 2 y.2.2.1.length y.2.2.2.2.2.1, .s (.slice y.2.2.2.2.2.2.2.2.1 y.2.2.2.2.2.2.2.1.length y.2.2.2.2.2.2.2.2.2.1) 32 1 y.2.2.2.2.2.2.2.1.length y.2.2.2.2.2.2.2.2.2.2.2, .g (packG 63 2 y.2.2.2.2.2.2.2.2.2.2.1)]) [_, _] (fun y => OL (Rep.pair (Rep.int .i64) (Rep.int .i64)) G1152 y.2.2.2.2.2.1 y.2.2.1 ∧ NL (Rep.pair Rep.str (Rep.int .i64)) G1152 y.2.2.2.2.2.2.2.2.2.2.1 y.2.2.2.2.2.2.2.2.2.2.2 y.2.2.2.2.2.2.2.1 ∧ (ref20_Build_J3 v1144 v1145 v1146 u1157.1 v987) y.2.1 y.2.2.1 y.2.2.2.2.2.2.1 y.2.2.2.2.2.2.2.1 = some r) ⟨rfl, rfl, rfl, trivial⟩ [0, 1] rfl [0, 1] rfl ?_ ?_
        ·intro y hI
         obtain ⟨b5197, v5198, v5199, a5200, k5201, cs5202, v5205, v5206, a5207, k5208, es5209, cs5210⟩ := y
         obtain ⟨o5203, o5211, r5215⟩ := hI
         try dsimp only at o5203 o5211 r5215
         refine Cov.prune [(21, .pointer (some ⟨b5197, 0, none⟩)), (8, _), (6, _), (19, _)] ⟨rfl, rfl, rfl, rfl, trivial⟩ ?_;refine Cov.same (bl' := [(b5197, .cells #[.int .i64 v5198, .slice a5200 v5199.length k5201, .int .i64 v5205, .slice a5207 v5206.length k5208] 31 (0, 0)), _, _]) (sl' := [.s (.slice a5200 v5199.length k5201) 70 2 v5199.length cs5202, .s (.slice a5207 v5206.length k5208) 32 1 v5206.length cs5210, .g (packG 63 2 es5209), _, _]) (Fs' := G1152 :: Fs) rfl rfl rfl ?_
         unfold ref20_Build_J3 at r5215
         try dsimp only at r5215
         refine Cov.seq ?_;refine Cov.seq ?_;refine Cov.region rfl ?_;refine Cov.q .ro (.move rfl) rfl ?_;refine Cov.q .ro (.len_sl rfl rfl sl39) rfl ?_;refine Cov.q .ro (.move rfl) rfl ?_;refine Cov.region_end ?_;refine Cov.cutB (β := Hp × Int × Int × (List (List (ByteArray × Int))) × List NE × List Value × Int × Int × Int) (fun y => []) [(21, _), (6, _)] (fun y => y.1 :: Fs) (fun y => [(b5197, .cells #[.int .i64 y.2.1, .slice a5200 v5199.length k5201, .int .i64 y.2.2.1, .slice a5207 y.2.2.2.1.length k5208] 31 (0, 0)), (b2, .cells #[.int .i64 y.2.2.2.2.2.2.1, .slice none 0 0, .int .i64 y.2.2.2.2.2.2.2.1, .slice none 0 0] 31 (0, 0)), (b1, .cells #[.int .i64 y.2.2.2.2.2.2.2.2, .slice a0_1 x0_1.length k0_1] 28 (0, 0))]) [] (fun y => [.s (.slice a5207 y.2.2.2.1.length k5208) 32 1 y.2.2.2.1.length y.2.2.2.2.2.1, .g (packG 63 2 y.2.2.2.2.1)]) [_, _] (fun y => HpLe G1152 y.1 ∧ Bd w0 S0 Fs y.1 ∧ NL (Rep.pair Rep.str (Rep.int .i64)) y.1 y.2.2.2.2.1 y.2.2.2.2.2.1 y.2.2.2.1 ∧ y.2.2.2.1.length = v5206.length ∧ (ref20_Build_J1 v5199) y.2.1 y.2.2.1 y.2.2.2.1 y.2.2.2.2.2.2.1 y.2.2.2.2.2.2.2.1 y.2.2.2.2.2.2.2.2 = some r) ⟨rfl, rfl, trivial⟩ [] rfl [0, 3] rfl ?_ ?_
         ·intro y hI
          obtain ⟨G17446, v17450, v17451, v17452, es17453, cs17454, v17459, v17460, v17461⟩ := y
          obtain ⟨e17447, B17448, o17455, hl17456, r17463⟩ := hI
          try dsimp only at e17447 B17448 o17455 hl17456 r17463
          refine Cov.prune [(21, _), (6, _)] ⟨rfl, rfl, trivial⟩ ?_;refine Cov.same (bl' := [(b5197, .cells #[.int .i64 v17450, .slice a5200 v5199.length k5201, .int .i64 v17451, .slice a5207 v17452.length k5208] 31 (0, 0)), (b2, .cells #[.int .i64 v17459, .slice none 0 0, .int .i64 v17460, .slice none 0 0] 31 (0, 0)), (b1, .cells #[.int .i64 v17461, .slice a0_1 x0_1.length k0_1] 28 (0, 0))]) (sl' := [.s (.slice a5207 v17452.length k5208) 32 1 v17452.length cs17454, .g (packG 63 2 es17453), _, _]) (Fs' := G17446 :: Fs) rfl rfl rfl ?_
          unfold ref20_Build_J1 at r17463
          try dsimp only at r17463
          refine Cov.seq ?_;refine Cov.region rfl ?_;refine Cov.q .ro (.load_own_a 0 [_, _, _, _] rfl rfl ty31 rfl) rfl ?_;refine Cov.store 1 [_, _, _, _] [_, _, _] .ro rfl rfl rfl ty31 rfl rfl rfl rfl ?_;refine Cov.q .ro (.assign rfl) rfl ?_;refine Cov.region_end ?_
          refine Cov.freezeR 2 rfl rfl (OL.mono e17447 o5203) [_, _, _] rfl B17448 (fun G17467 e17468 B17469 s17470 => ?_)
          refine Cov.pullS 1 rfl [_, _, _] rfl ?_;refine Cov.pullS 1 rfl [_, _, _] rfl ?_
          refine Cov.freezeN (Q := (Rep.pair Rep.str (Rep.int .i64))) rfl (NL.mono e17468 o17455) rfl B17469 (fun G17472 e17473 B17474 s17475 => ?_)
          cases r17463
          refine Cov.drop 0 1 _ [] rfl rfl ?_
          refine Cov.retWD 3 (c := ⟨19, none⟩) (.inr ⟨_, rfl⟩) [.cell 6 31, .tmp 7] [_, _] rfl Try.func19 Try.results19 ⟨RV.cell_a 1 [_, _, _, _] rfl rfl ty31 rfl, RV.tmp rfl, trivial⟩ (fun _ h => List.mem_cons_of_mem _ h) List.mem_cons_self B17474 (by subst hS0; simp [blks]) (fun G' hg => ⟨a5200, k5201, a5207, k5208, rfl, rfl, rfl, (SlR.mono hg (SlR.mono e17473 s17470)), (SlR.mono hg s17475)⟩)
         ·intro hb17477
          refine Cov.block ?_
          refine Cov.freezeR 4 rfl rfl (OL.mono (HpLe.trans e1135 e1153) o991) [_, _, _, _] rfl B1154 (fun G21548 e21549 B21550 s21551 => ?_)
          refine Cov.pullS 2 rfl [_, _, _, _] rfl ?_;refine Cov.pullS 2 rfl [_, _, _, _] rfl ?_
          refine Cov.loop2 (α := Nat × List Int × Hp × (List (List (ByteArray × Int))) × List NE × List Value) (fun y => [(141, .int .i64 (y.1 : Int))]) [(21, _), (8, _), (6, _), (139, _), (140, _)] (fun y => [y.2.2.1]) (fun y => [(b5197, .cells #[.int .i64 v5198, .slice a5200 v5199.length k5201, .int .i64 v5205, .slice a5207 y.2.2.2.1.length k5208] 31 (0, 0))]) [_, _] (fun y => [.s (.slice a5207 y.2.2.2.1.length k5208) 32 1 y.2.2.2.1.length y.2.2.2.2.2, .g (packG 63 2 y.2.2.2.2.1)]) [_, _] (fun y => HpLe G21548 y.2.2.1 ∧ Bd w0 S0 Fs y.2.2.1 ∧ NL (Rep.pair Rep.str (Rep.int .i64)) y.2.2.1 y.2.2.2.2.1 y.2.2.2.2.2 y.2.2.2.1 ∧ y.2.2.2.1.length = v5206.length ∧ List.drop y.1 u1157.1 = y.2.1 ∧ ref20_Build_L2 (ref20_Build_J1 v5199) v987 v5198 v5205 v1144 v1145 v1146 y.2.1 y.1 y.2.2.2.1 = some r) (fun y => y.2.1.length) (0, u1157.1, G21548, v5206, es5209, cs5210) ⟨(HpLe.refl _), B21550, (NL.mono e21549 o5211), rfl, rfl, r5215⟩ ⟨rfl, rfl, rfl, rfl, rfl, rfl, trivial⟩ rfl rfl rfl (fun y hI hb25634 => ?_)
          obtain ⟨i25619, w25620, G25622, v25626, es25627, cs25628⟩ := y
          obtain ⟨e25623, B25624, o25629, hl25630, g25621, r25633⟩ := hI
          try dsimp only at e25623 B25624 o25629 hl25630 g25621 r25633
          refine Cov.prune [(141, .int .i64 (i25619 : Int)), (21, _), (8, _), (6, _), (139, _), (140, _)] ⟨rfl, rfl, rfl, rfl, rfl, rfl, trivial⟩ ?_;refine Cov.same (bl' := [(b5197, .cells #[.int .i64 v5198, .slice a5200 v5199.length k5201, .int .i64 v5205, .slice a5207 v25626.length k5208] 31 (0, 0)), _, _]) (sl' := [.s (.slice a5207 v25626.length k5208) 32 1 v25626.length cs25628, .g (packG 63 2 es25627), _, _]) (Fs' := G25622 :: Fs) rfl rfl rfl ?_
          cases w25620 with
          | nil =>
           rw [ref20_Build_L2] at r25633; try dsimp only at r25633
           refine Cov.seq ?_;refine Cov.region rfl ?_;refine Cov.q .ro (.lss rfl rfl) rfl ?_;refine Cov.region_end ?_;refine Cov.seq ?_
           refine Cov.cond_dec rfl (fun c => absurd c (drop_nil g25621)) (fun _ => ?_)
           refine Cov.exit rfl ?_
           refine Cov.prune _ ?_ (Cov.same rfl rfl rfl (hb17477 (G25622, v5198, v5205, v25626, es25627, cs25628, v1144, v1145, v1146) ⟨(HpLe.trans e21549 e25623), B25624, o25629, hl25630, r25633⟩))
           exact ⟨rfl, rfl, trivial⟩
          | cons x25646 xs25647 =>
           have r25645 : ref20_Build_B2 (ref20_Build_J1 v5199) v987 v5198 v5205 v1144 v1145 v1146 (ref20_Build_L2 (ref20_Build_J1 v5199) v987 v5198 v5205 v1144 v1145 v1146 xs25647 (i25619 + 1)) x25646 i25619 v25626 = some r := r25633; clear r25633; unfold ref20_Build_B2 at r25645; try dsimp only at r25645
           refine Cov.seq ?_;refine Cov.region rfl ?_;refine Cov.q .ro (.lss rfl rfl) rfl ?_;refine Cov.region_end ?_;refine Cov.seq ?_
           refine Cov.cond_dec rfl (fun _ => ?_) (fun c => absurd (drop_lt g25621) c)
           refine Cov.skip ?_;refine Cov.seq ?_;refine Cov.block ?_;refine Cov.seq ?_;refine Cov.region rfl ?_;refine Cov.q .ro (.move rfl) rfl ?_
           obtain ⟨c25648, p25649, h25650⟩ := OL.get (OL.mono (HpLe.trans e21549 e25623) o1165) (drop_idx g25621)
           obtain rfl := h25650
           refine Cov.q .ro (.idxO 3 rfl rfl rfl (drop_idx g25621) sl39 ty3.sz) rfl ?_;refine Cov.q .ro (.loadO 3 0 rfl (drop_idx g25621) p25649 rfl (.inl ⟨rfl, rfl⟩) ty3 rfl) rfl ?_;refine Cov.q .ro (.assign rfl) rfl ?_;refine Cov.q .ro (.assign rfl) rfl ?_;refine Cov.region_end ?_;refine Cov.drawL (.q 0 (.q 1 (.q 2 (.q 3 (.q 4 (.q 5 (.q 8 (.q 9 (.q 10 (.q 11 (.alt (.e 6 1 (.alt (.e 7 1 (.e 12 1 (.e 13 1 (.e 14 2 (.e 15 2 .nil))))) (.e 12 1 (.e 7 1 (.e 13 1 (.e 14 2 (.e 15 2 .nil))))))) (.e 12 1 (.e 6 1 (.e 7 1 (.e 13 1 (.e 14 2 (.e 15 2 .nil))))))))))))))))) [_, _, _] (by kernel_rfl) (by kernel_rfl) (pick_mem [0, 1, 2] rfl) ?_
           obtain ⟨u25651, hu25651, r25687⟩ := bind_some r25645; clear r25645
           obtain ⟨u25655, hu25655, r25688⟩ := bind_some r25687; clear r25687
           obtain ⟨u25674, hu25674, r25689⟩ := bind_some r25688; clear r25688
           obtain ⟨u25676, hu25676, r25690⟩ := bind_some r25689; clear r25689
           obtain ⟨u25682, hu25682, r25691⟩ := bind_some r25690; clear r25690
           refine Cov.dq (.fieldAddr 3 rfl fl31_2 ty29.sz rfl) rfl ?_;refine Cov.dq (.load_own 0 rfl rfl ty29 rfl) rfl ?_;refine Cov.dq (.move rfl) rfl ?_;refine Cov.dq (.fieldAddr 3 rfl fl31_2 ty29.sz rfl) rfl ?_;refine Cov.dq (.load_own 0 rfl rfl ty29 rfl) rfl ?_;refine Cov.dq (.move rfl) rfl ?_;refine Cov.dq (.move rfl) rfl ?_;refine Cov.dq (.move rfl) rfl ?_
           obtain ⟨c25692, p25693, h25694⟩ := SlR.get (SlR.mono e25623 s21551) hu25651
           obtain ⟨_, _, rfl, rfl, rfl⟩ := h25694
           refine Cov.dq (.idxR (SlR.mono e25623 s21551) rfl rfl hu25651 sl32 ty63.sz) rfl ?_;refine Cov.dq (.load_rp_a [_, _] p25693 List.mem_cons_self rfl ty63 rfl) rfl ?_;refine Cov.alt ?_ ?_
           ·obtain ⟨e25695, he25696, hn25697, ho25698, p25699⟩ := NL.get o25629 hu25655
            refine Cov.q .d1 (.idxO 0 rfl rfl rfl hu25655 sl29 ty32.sz) rfl ?_;refine Cov.clsL (HpLe.refl _) (pick_mem [0, 1, 2] rfl) ?_;refine Cov.alt ?_ ?_
            ·refine Cov.q .d1 (.loadO 0 0 rfl hu25655 p25699 rfl (.inl ⟨rfl, rfl⟩) ty32 rfl) rfl ?_
             refine Cov.clsL (HpLe.refl _) (pick_mem [0, 1, 2] rfl) ?_
             refine Cov.lit [_, _] [(0, _)] .d1 sl32 ty63 rfl rfl rfl rfl rfl rfl (fun b25700 hb25700 => ?_)
             have o25701 : OL (Rep.pair Rep.str (Rep.int .i64)) G25622 [.string u25651.1, .int .i64 u25651.2] ([u25651] : List (ByteArray × Int)) := ((OL.cons rfl (Rep.pairI (Rep.strI u25651.1) (Rep.intI .i64 u25651.2)) (OL.nil (Rp' := (Rep.pair Rep.str (Rep.int .i64))))) :)
             refine Cov.reval 158 (n' := ([u25651] : List (ByteArray × Int)).length) rfl rfl ?_;refine Cov.clsL (HpLe.refl _) (pick_mem [0, 1, 2] rfl) ?_
             refine Cov.freezeR 0 rfl rfl o25701 [_, _, _, _] rfl B25624 (fun G25703 e25704 B25705 s25706 => ?_)
             refine Cov.takeN 1 rfl he25696 hn25697 ?_
             refine Cov.appR (Q := (Rep.pair Rep.str (Rep.int .i64))) 0 .d1 sl32 ty63 rfl rfl rfl rfl rfl (OL.mono e25704 ho25698) rfl rfl s25706 rfl List.mem_cons_self hu25674 rfl (fun a25709 k25710 cs25711 o25712 => ?_)
             refine Cov.clsL e25704 (pick_mem [0, 1, 2] rfl) ?_
             obtain ⟨e25714, he25715, hn25716, ho25717, p25718⟩ := NL.get (NL.mono e25704 o25629) hu25676
             refine Cov.q .d2 (.idxO 1 rfl rfl rfl hu25676 sl29 ty32.sz) rfl ?_
             refine Cov.storeN 0 1 (Q := (Rep.pair Rep.str (Rep.int .i64))) .d2 rfl rfl rfl (NL.mono e25704 o25629) he25696 o25712 hu25682 rfl (.inl ⟨rfl, rfl⟩) rfl ty32 rfl (fun es25719 cs25720 hlcs25720 o25721 => ?_)
             refine Cov.reval 147 hlcs25720 rfl ?_;refine Cov.reval 150 hlcs25720 rfl ?_;refine Cov.recell 0 [_, _, _, .slice a5207 u25682.length k5208] rfl (by rw [hlcs25720]) [_, _, _] rfl ?_;refine Cov.draw_end ?_;refine Cov.prune [(141, _), (21, _), (8, _), (6, _), (139, _), (140, _)] ⟨rfl, rfl, rfl, rfl, rfl, rfl, trivial⟩ ?_;refine Cov.inBlock ?_;refine Cov.region rfl ?_;refine Cov.q .ro (.addw rfl rfl) rfl ?_;refine Cov.q .ro (.move rfl) rfl ?_
             refine Cov.region_end ?_
             refine Cov.prune _ ?_ (Cov.same rfl rfl rfl (hb25634 ((i25619 + 1), xs25647, G25703, u25682, es25719, cs25720) ⟨(HpLe.trans e25623 e25704), B25705, o25721, (hlcs25720.trans hl25630), (drop_succ g25621), r25691⟩ (Nat.lt_succ_self _)))
             exact ⟨(congrArg (fun z => some (Value.int .i64 z)) (idx_wrap (OL.len' o1165) g25621)), rfl, rfl, rfl, rfl, rfl, trivial⟩
            ·refine Cov.lit [_, _] [(0, _)] .d1 sl32 ty63 rfl rfl rfl rfl rfl rfl (fun b25723 hb25723 => ?_)
             have o25724 : OL (Rep.pair Rep.str (Rep.int .i64)) G25622 [.string u25651.1, .int .i64 u25651.2] ([u25651] : List (ByteArray × Int)) := ((OL.cons rfl (Rep.pairI (Rep.strI u25651.1) (Rep.intI .i64 u25651.2)) (OL.nil (Rp' := (Rep.pair Rep.str (Rep.int .i64))))) :)
             refine Cov.reval 158 (n' := ([u25651] : List (ByteArray × Int)).length) rfl rfl ?_;refine Cov.clsL (HpLe.refl _) (pick_mem [0, 1, 2] rfl) ?_;refine Cov.q .d1 (.loadO 1 0 rfl hu25655 p25699 rfl (.inl ⟨rfl, rfl⟩) ty32 rfl) rfl ?_;refine Cov.clsL (HpLe.refl _) (pick_mem [0, 1, 2] rfl) ?_
             refine Cov.freezeR 0 rfl rfl o25724 [_, _, _, _] rfl B25624 (fun G25726 e25727 B25728 s25729 => ?_)
             refine Cov.takeN 1 rfl he25696 hn25697 ?_
             refine Cov.appR (Q := (Rep.pair Rep.str (Rep.int .i64))) 0 .d1 sl32 ty63 rfl rfl rfl rfl rfl (OL.mono e25727 ho25698) rfl rfl s25729 rfl List.mem_cons_self hu25674 rfl (fun a25732 k25733 cs25734 o25735 => ?_)
             refine Cov.clsL e25727 (pick_mem [0, 1, 2] rfl) ?_
             obtain ⟨e25737, he25738, hn25739, ho25740, p25741⟩ := NL.get (NL.mono e25727 o25629) hu25676
             refine Cov.q .d2 (.idxO 1 rfl rfl rfl hu25676 sl29 ty32.sz) rfl ?_
             refine Cov.storeN 0 1 (Q := (Rep.pair Rep.str (Rep.int .i64))) .d2 rfl rfl rfl (NL.mono e25727 o25629) he25696 o25735 hu25682 rfl (.inl ⟨rfl, rfl⟩) rfl ty32 rfl (fun es25742 cs25743 hlcs25743 o25744 => ?_)
             refine Cov.reval 147 hlcs25743 rfl ?_;refine Cov.reval 150 hlcs25743 rfl ?_;refine Cov.recell 0 [_, _, _, .slice a5207 u25682.length k5208] rfl (by rw [hlcs25743]) [_, _, _] rfl ?_;refine Cov.draw_end ?_;refine Cov.prune [(141, _), (21, _), (8, _), (6, _), (139, _), (140, _)] ⟨rfl, rfl, rfl, rfl, rfl, rfl, trivial⟩ ?_;refine Cov.inBlock ?_;refine Cov.region rfl ?_;refine Cov.q .ro (.addw rfl rfl) rfl ?_;refine Cov.q .ro (.move rfl) rfl ?_
             refine Cov.region_end ?_
             refine Cov.prune _ ?_ (Cov.same rfl rfl rfl (hb25634 ((i25619 + 1), xs25647, G25726, u25682, es25742, cs25743) ⟨(HpLe.trans e25623 e25727), B25728, o25744, (hlcs25743.trans hl25630), (drop_succ g25621), r25691⟩ (Nat.lt_succ_self _)))
             exact ⟨(congrArg (fun z => some (Value.int .i64 z)) (idx_wrap (OL.len' o1165) g25621)), rfl, rfl, rfl, rfl, rfl, trivial⟩
           ·refine Cov.lit [_, _] [(0, _)] .d1 sl32 ty63 rfl rfl rfl rfl rfl rfl (fun b25746 hb25746 => ?_)
            have o25747 : OL (Rep.pair Rep.str (Rep.int .i64)) G25622 [.string u25651.1, .int .i64 u25651.2] ([u25651] : List (ByteArray × Int)) := ((OL.cons rfl (Rep.pairI (Rep.strI u25651.1) (Rep.intI .i64 u25651.2)) (OL.nil (Rp' := (Rep.pair Rep.str (Rep.int .i64))))) :)
            refine Cov.reval 158 (n' := ([u25651] : List (ByteArray × Int)).length) rfl rfl ?_;refine Cov.clsL (HpLe.refl _) (pick_mem [0, 1, 2] rfl) ?_
            obtain ⟨e25749, he25750, hn25751, ho25752, p25753⟩ := NL.get o25629 hu25655
            refine Cov.q .d1 (.idxO 1 rfl rfl rfl hu25655 sl29 ty32.sz) rfl ?_;refine Cov.clsL (HpLe.refl _) (pick_mem [0, 1, 2] rfl) ?_;refine Cov.q .d1 (.loadO 1 0 rfl hu25655 p25753 rfl (.inl ⟨rfl, rfl⟩) ty32 rfl) rfl ?_;refine Cov.clsL (HpLe.refl _) (pick_mem [0, 1, 2] rfl) ?_
            refine Cov.freezeR 0 rfl rfl o25747 [_, _, _, _] rfl B25624 (fun G25754 e25755 B25756 s25757 => ?_)
            refine Cov.takeN 1 rfl he25750 hn25751 ?_
            refine Cov.appR (Q := (Rep.pair Rep.str (Rep.int .i64))) 0 .d1 sl32 ty63 rfl rfl rfl rfl rfl (OL.mono e25755 ho25752) rfl rfl s25757 rfl List.mem_cons_self hu25674 rfl (fun a25760 k25761 cs25762 o25763 => ?_)
            refine Cov.clsL e25755 (pick_mem [0, 1, 2] rfl) ?_
            obtain ⟨e25765, he25766, hn25767, ho25768, p25769⟩ := NL.get (NL.mono e25755 o25629) hu25676
            refine Cov.q .d2 (.idxO 1 rfl rfl rfl hu25676 sl29 ty32.sz) rfl ?_
            refine Cov.storeN 0 1 (Q := (Rep.pair Rep.str (Rep.int .i64))) .d2 rfl rfl rfl (NL.mono e25755 o25629) he25750 o25763 hu25682 rfl (.inl ⟨rfl, rfl⟩) rfl ty32 rfl (fun es25770 cs25771 hlcs25771 o25772 => ?_)
            refine Cov.reval 147 hlcs25771 rfl ?_;refine Cov.reval 150 hlcs25771 rfl ?_;refine Cov.recell 0 [_, _, _, .slice a5207 u25682.length k5208] rfl (by rw [hlcs25771]) [_, _, _] rfl ?_;refine Cov.draw_end ?_;refine Cov.prune [(141, _), (21, _), (8, _), (6, _), (139, _), (140, _)] ⟨rfl, rfl, rfl, rfl, rfl, rfl, trivial⟩ ?_;refine Cov.inBlock ?_;refine Cov.region rfl ?_;refine Cov.q .ro (.addw rfl rfl) rfl ?_;refine Cov.q .ro (.move rfl) rfl ?_
            refine Cov.region_end ?_
            refine Cov.prune _ ?_ (Cov.same rfl rfl rfl (hb25634 ((i25619 + 1), xs25647, G25754, u25682, es25770, cs25771) ⟨(HpLe.trans e25623 e25755), B25756, o25772, (hlcs25771.trans hl25630), (drop_succ g25621), r25691⟩ (Nat.lt_succ_self _)))
            exact ⟨(congrArg (fun z => some (Value.int .i64 z)) (idx_wrap (OL.len' o1165) g25621)), rfl, rfl, rfl, rfl, rfl, trivial⟩
        ·intro hb29702
         refine Cov.drawL (.q 0 (.q 1 (.q 2 (.q 3 (.q 6 (.q 7 (.q 8 (.alt (.e 4 1 (.q 5 (.alt (.e 9 1 (.q 10 (.e 11 1 (.e 12 2 .nil)))) (.e 11 1 (.e 9 1 (.q 10 (.e 12 2 .nil))))))) (.alt (.e 9 1 (.alt (.e 4 1 (.q 5 (.q 10 (.e 11 1 (.e 12 2 .nil))))) (.e 11 1 (.e 4 1 (.q 5 (.q 10 (.e 12 2 .nil))))))) (.e 11 1 (.alt (.e 4 1 (.q 5 (.e 9 1 (.q 10 (.e 12 2 .nil))))) (.e 9 1 (.e 4 1 (.q 5 (.q 10 (.e 12 2 .nil)))))))))))))))) [_, _] (by kernel_rfl) (by kernel_rfl) (pick_mem [0, 1] rfl) ?_
         obtain ⟨u29708, hu29708, r29718⟩ := bind_some r1168; clear r1168
         obtain ⟨u29710, hu29710, r29719⟩ := bind_some r29718; clear r29718
         refine Cov.dq (.fieldAddr 0 rfl fl28_0 ty3.sz rfl) rfl ?_;refine Cov.dq (.load_own 1 rfl rfl ty3 rfl) rfl ?_;refine Cov.dq (.fieldAddr 1 rfl fl28_1 ty26.sz rfl) rfl ?_;refine Cov.dq (.load_own 1 rfl rfl ty26 rfl) rfl ?_;refine Cov.dq (.move rfl) rfl ?_;refine Cov.dq (.fieldAddr 0 rfl fl28_0 ty3.sz rfl) rfl ?_;refine Cov.dq (.load_own 1 rfl rfl ty3 rfl) rfl ?_;refine Cov.alt ?_ ?_
         ·refine Cov.own_nil 70 2 ?_
          refine Cov.appR (Q := (Rep.pair (Rep.int .i64) (Rep.int .i64))) 0 .d1 sl26 ty70 rfl rfl rfl rfl rfl (OL.nil (Rp' := (Rep.pair (Rep.int .i64) (Rep.int .i64)))) rfl rfl (SlR.mono (HpLe.trans e1135 e1153) s0_1) rfl List.mem_cons_self hu29708 rfl (fun a29721 k29722 cs29723 o29724 => ?_)
          refine Cov.clsL (HpLe.refl _) (pick_mem [0, 1] rfl) ?_;refine Cov.dq (.build [_, _] [(0, _), (1, _)] ty28 pl28 rfl rfl) rfl ?_;refine Cov.alt ?_ ?_
          ·refine Cov.makeN (G := G1152) (Q := (Rep.pair Rep.str (Rep.int .i64))) 63 2 .d1 sl29 ty32 rfl rfl hu29710 rfl rfl (fun b29726 es29727 cs29728 hb29726 o29729 => ?_)
           refine Cov.clsL (HpLe.refl _) (pick_mem [0, 1] rfl) ?_;refine Cov.dq (.build [_, _, _, _] [(0, _), (1, _), (2, _)] ty31 pl31 rfl rfl) rfl ?_
           refine Cov.alloc .d1 ty31 rfl (fun b29732 hb29732 => ?_)
           refine Cov.clsL (HpLe.refl _) (pick_mem [1, 2] rfl) ?_;refine Cov.store 0 [_, _, _, _] [_, _, _] .d2 rfl rfl rfl ty31 rfl rfl rfl rfl ?_;refine Cov.draw_end ?_;refine Cov.prune [(8, _), (6, _), (19, _), (21, _)] ⟨rfl, rfl, rfl, rfl, trivial⟩ ?_;refine Cov.pullS 4 rfl [_, _, _, _, _] rfl ?_;refine Cov.pullS 4 rfl [_, _, _, _, _] rfl ?_;refine Cov.pullS 3 rfl [_, _, _, _, _] rfl ?_;refine Cov.pullS 3 rfl [_, _, _, _, _] rfl ?_;refine Cov.pullS 4 rfl [_, _, _, _, _] rfl ?_
           refine Cov.prune _ ?_ (Cov.same rfl rfl rfl (hb29702 (b29732, v1146, u29708, a29721, k29722, cs29723, x1, u29710, (some ⟨b29726, 0, none⟩), u29710.length, es29727, cs29728) ⟨o29724, o29729, r29719⟩))
           exact ⟨rfl, rfl, rfl, rfl, trivial⟩
          ·refine Cov.alloc .d1 ty31 rfl (fun b29733 hb29733 => ?_)
           refine Cov.clsL (HpLe.refl _) (pick_mem [1, 2] rfl) ?_
           refine Cov.makeN (G := G1152) (Q := (Rep.pair Rep.str (Rep.int .i64))) 63 2 .d1 sl29 ty32 rfl rfl hu29710 rfl rfl (fun b29734 es29735 cs29736 hb29734 o29737 => ?_)
           refine Cov.clsL (HpLe.refl _) (pick_mem [1, 2] rfl) ?_;refine Cov.dq (.build [_, _, _, _] [(0, _), (1, _), (2, _)] ty31 pl31 rfl rfl) rfl ?_;refine Cov.store 0 [_, _, _, _] [_, _, _] .d2 rfl rfl rfl ty31 rfl rfl rfl rfl ?_;refine Cov.draw_end ?_;refine Cov.prune [(8, _), (6, _), (19, _), (21, _)] ⟨rfl, rfl, rfl, rfl, trivial⟩ ?_;refine Cov.pullS 4 rfl [_, _, _, _, _] rfl ?_;refine Cov.pullS 4 rfl [_, _, _, _, _] rfl ?_;refine Cov.pullS 3 rfl [_, _, _, _, _] rfl ?_;refine Cov.pullS 3 rfl [_, _, _, _, _] rfl ?_
           refine Cov.pullS 4 rfl [_, _, _, _, _] rfl ?_
           refine Cov.prune _ ?_ (Cov.same rfl rfl rfl (hb29702 (b29733, v1146, u29708, a29721, k29722, cs29723, x1, u29710, (some ⟨b29734, 0, none⟩), u29710.length, es29735, cs29736) ⟨o29724, o29737, r29719⟩))
           exact ⟨rfl, rfl, rfl, rfl, trivial⟩
         ·refine Cov.alt ?_ ?_
          ·refine Cov.makeN (G := G1152) (Q := (Rep.pair Rep.str (Rep.int .i64))) 63 2 .d1 sl29 ty32 rfl rfl hu29710 rfl rfl (fun b29740 es29741 cs29742 hb29740 o29743 => ?_)
           refine Cov.clsL (HpLe.refl _) (pick_mem [0, 1] rfl) ?_;refine Cov.alt ?_ ?_
           ·refine Cov.own_nil 70 2 ?_
            refine Cov.appR (Q := (Rep.pair (Rep.int .i64) (Rep.int .i64))) 0 .d1 sl26 ty70 rfl rfl rfl rfl rfl (OL.nil (Rp' := (Rep.pair (Rep.int .i64) (Rep.int .i64)))) rfl rfl (SlR.mono (HpLe.trans e1135 e1153) s0_1) rfl List.mem_cons_self hu29708 rfl (fun a29747 k29748 cs29749 o29750 => ?_)
            refine Cov.clsL (HpLe.refl _) (pick_mem [0, 1] rfl) ?_;refine Cov.dq (.build [_, _] [(0, _), (1, _)] ty28 pl28 rfl rfl) rfl ?_;refine Cov.dq (.build [_, _, _, _] [(0, _), (1, _), (2, _)] ty31 pl31 rfl rfl) rfl ?_
            refine Cov.alloc .d1 ty31 rfl (fun b29752 hb29752 => ?_)
            refine Cov.clsL (HpLe.refl _) (pick_mem [1, 2] rfl) ?_;refine Cov.store 0 [_, _, _, _] [_, _, _] .d2 rfl rfl rfl ty31 rfl rfl rfl rfl ?_;refine Cov.draw_end ?_;refine Cov.prune [(8, _), (6, _), (19, _), (21, _)] ⟨rfl, rfl, rfl, rfl, trivial⟩ ?_
            refine Cov.prune _ ?_ (Cov.same rfl rfl rfl (hb29702 (b29752, v1146, u29708, a29747, k29748, cs29749, x1, u29710, (some ⟨b29740, 0, none⟩), u29710.length, es29741, cs29742) ⟨o29750, o29743, r29719⟩))
            exact ⟨rfl, rfl, rfl, rfl, trivial⟩
           ·refine Cov.alloc .d1 ty31 rfl (fun b29753 hb29753 => ?_)
            refine Cov.clsL (HpLe.refl _) (pick_mem [1, 2] rfl) ?_;refine Cov.own_nil 70 2 ?_
            refine Cov.appR (Q := (Rep.pair (Rep.int .i64) (Rep.int .i64))) 0 .d1 sl26 ty70 rfl rfl rfl rfl rfl (OL.nil (Rp' := (Rep.pair (Rep.int .i64) (Rep.int .i64)))) rfl rfl (SlR.mono (HpLe.trans e1135 e1153) s0_1) rfl List.mem_cons_self hu29708 rfl (fun a29755 k29756 cs29757 o29758 => ?_)
            refine Cov.clsL (HpLe.refl _) (pick_mem [1, 2] rfl) ?_;refine Cov.dq (.build [_, _] [(0, _), (1, _)] ty28 pl28 rfl rfl) rfl ?_;refine Cov.dq (.build [_, _, _, _] [(0, _), (1, _), (2, _)] ty31 pl31 rfl rfl) rfl ?_;refine Cov.store 0 [_, _, _, _] [_, _, _] .d2 rfl rfl rfl ty31 rfl rfl rfl rfl ?_;refine Cov.draw_end ?_;refine Cov.prune [(8, _), (6, _), (19, _), (21, _)] ⟨rfl, rfl, rfl, rfl, trivial⟩ ?_
            refine Cov.prune _ ?_ (Cov.same rfl rfl rfl (hb29702 (b29753, v1146, u29708, a29755, k29756, cs29757, x1, u29710, (some ⟨b29740, 0, none⟩), u29710.length, es29741, cs29742) ⟨o29758, o29743, r29719⟩))
            exact ⟨rfl, rfl, rfl, rfl, trivial⟩
          ·refine Cov.alloc .d1 ty31 rfl (fun b29760 hb29760 => ?_)
           refine Cov.clsL (HpLe.refl _) (pick_mem [1, 2] rfl) ?_;refine Cov.alt ?_ ?_
           ·refine Cov.own_nil 70 2 ?_
            refine Cov.appR (Q := (Rep.pair (Rep.int .i64) (Rep.int .i64))) 0 .d1 sl26 ty70 rfl rfl rfl rfl rfl (OL.nil (Rp' := (Rep.pair (Rep.int .i64) (Rep.int .i64)))) rfl rfl (SlR.mono (HpLe.trans e1135 e1153) s0_1) rfl List.mem_cons_self hu29708 rfl (fun a29762 k29763 cs29764 o29765 => ?_)
            refine Cov.clsL (HpLe.refl _) (pick_mem [1, 2] rfl) ?_;refine Cov.dq (.build [_, _] [(0, _), (1, _)] ty28 pl28 rfl rfl) rfl ?_
            refine Cov.makeN (G := G1152) (Q := (Rep.pair Rep.str (Rep.int .i64))) 63 2 .d1 sl29 ty32 rfl rfl hu29710 rfl rfl (fun b29767 es29768 cs29769 hb29767 o29770 => ?_)
            refine Cov.clsL (HpLe.refl _) (pick_mem [1, 2] rfl) ?_;refine Cov.dq (.build [_, _, _, _] [(0, _), (1, _), (2, _)] ty31 pl31 rfl rfl) rfl ?_;refine Cov.store 0 [_, _, _, _] [_, _, _] .d2 rfl rfl rfl ty31 rfl rfl rfl rfl ?_;refine Cov.draw_end ?_;refine Cov.prune [(8, _), (6, _), (19, _), (21, _)] ⟨rfl, rfl, rfl, rfl, trivial⟩ ?_;refine Cov.pullS 4 rfl [_, _, _, _, _] rfl ?_;refine Cov.pullS 4 rfl [_, _, _, _, _] rfl ?_;refine Cov.pullS 3 rfl [_, _, _, _, _] rfl ?_;refine Cov.pullS 3 rfl [_, _, _, _, _] rfl ?_
            refine Cov.pullS 4 rfl [_, _, _, _, _] rfl ?_
            refine Cov.prune _ ?_ (Cov.same rfl rfl rfl (hb29702 (b29760, v1146, u29708, a29762, k29763, cs29764, x1, u29710, (some ⟨b29767, 0, none⟩), u29710.length, es29768, cs29769) ⟨o29765, o29770, r29719⟩))
            exact ⟨rfl, rfl, rfl, rfl, trivial⟩
           ·refine Cov.makeN (G := G1152) (Q := (Rep.pair Rep.str (Rep.int .i64))) 63 2 .d1 sl29 ty32 rfl rfl hu29710 rfl rfl (fun b29773 es29774 cs29775 hb29773 o29776 => ?_)
            refine Cov.clsL (HpLe.refl _) (pick_mem [1, 2] rfl) ?_;refine Cov.own_nil 70 2 ?_
            refine Cov.appR (Q := (Rep.pair (Rep.int .i64) (Rep.int .i64))) 0 .d1 sl26 ty70 rfl rfl rfl rfl rfl (OL.nil (Rp' := (Rep.pair (Rep.int .i64) (Rep.int .i64)))) rfl rfl (SlR.mono (HpLe.trans e1135 e1153) s0_1) rfl List.mem_cons_self hu29708 rfl (fun a29780 k29781 cs29782 o29783 => ?_)
            refine Cov.clsL (HpLe.refl _) (pick_mem [1, 2] rfl) ?_;refine Cov.dq (.build [_, _] [(0, _), (1, _)] ty28 pl28 rfl rfl) rfl ?_;refine Cov.dq (.build [_, _, _, _] [(0, _), (1, _), (2, _)] ty31 pl31 rfl rfl) rfl ?_;refine Cov.store 0 [_, _, _, _] [_, _, _] .d2 rfl rfl rfl ty31 rfl rfl rfl rfl ?_;refine Cov.draw_end ?_;refine Cov.prune [(8, _), (6, _), (19, _), (21, _)] ⟨rfl, rfl, rfl, rfl, trivial⟩ ?_
            refine Cov.prune _ ?_ (Cov.same rfl rfl rfl (hb29702 (b29760, v1146, u29708, a29780, k29781, cs29782, x1, u29710, (some ⟨b29773, 0, none⟩), u29710.length, es29774, cs29775) ⟨o29783, o29776, r29719⟩))
            exact ⟨rfl, rfl, rfl, rfl, trivial⟩
      ·intro hb33730
       refine Cov.block ?_;refine Cov.own_nil 39 1 ?_
       refine Cov.loop2 (α := Nat × (List (ByteArray × Int)) × Hp × List (List Int) × Option Addr × Nat × List Value) (fun y => [(14, .slice y.2.2.2.2.1 y.2.2.2.1.length y.2.2.2.2.2.1), (101, .int .i64 (y.1 : Int))]) [(8, _), (1, _), (3, _), (6, _), (99, _), (100, _)] (fun y => [y.2.2.1]) (fun y => []) [_, _] (fun y => [.s (.slice y.2.2.2.2.1 y.2.2.2.1.length y.2.2.2.2.2.1) 39 1 y.2.2.2.1.length y.2.2.2.2.2.2]) [_] (fun y => HpLe G y.2.2.1 ∧ Bd w0 S0 Fs y.2.2.1 ∧ OL (Rep.sl (Rep.int .i64)) y.2.2.1 y.2.2.2.2.2.2 y.2.2.2.1 ∧ List.drop y.1 v987 = y.2.1 ∧ ref20_Build_L5 (ref20_Build_J4 x1 x0_1 v987) v993 v994 v995 x0_1 y.2.1 y.2.2.2.1 = some r) (fun y => y.2.1.length) (0, v987, G, ([] : List (List Int)), none, 0, []) ⟨(HpLe.refl _), B0, (OL.nil (Rp' := (Rep.sl (Rep.int .i64)))), rfl, r997⟩ ⟨rfl, rfl, rfl, rfl, rfl, rfl, rfl, rfl, trivial⟩ rfl rfl rfl (fun y hI hb33827 => ?_)
       obtain ⟨i33813, w33814, G33816, v33820, a33821, k33822, cs33823⟩ := y
       obtain ⟨e33817, B33818, o33824, g33815, r33826⟩ := hI
       try dsimp only at e33817 B33818 o33824 g33815 r33826
       refine Cov.prune [(14, .slice a33821 v33820.length k33822), (101, .int .i64 (i33813 : Int)), (8, _), (1, _), (3, _), (6, _), (99, _), (100, _)] ⟨rfl, rfl, rfl, rfl, rfl, rfl, rfl, rfl, trivial⟩ ?_;refine Cov.same (bl' := [_, _]) (sl' := [.s (.slice a33821 v33820.length k33822) 39 1 v33820.length cs33823, _]) (Fs' := G33816 :: Fs) rfl rfl rfl ?_
       cases w33814 with
       | nil =>
        rw [ref20_Build_L5] at r33826; try dsimp only at r33826
        refine Cov.seq ?_;refine Cov.region rfl ?_;refine Cov.q .ro (.lss rfl rfl) rfl ?_;refine Cov.region_end ?_;refine Cov.seq ?_
        refine Cov.cond_dec rfl (fun c => absurd c (drop_nil g33815)) (fun _ => ?_)
        refine Cov.exit rfl ?_
        refine Cov.prune _ ?_ (Cov.same rfl rfl rfl (hb33730 (G33816, v33820, a33821, k33822, cs33823, v993, v994, v995) ⟨e33817, B33818, o33824, r33826⟩))
        exact ⟨rfl, rfl, rfl, rfl, rfl, trivial⟩
       | cons x33836 xs33837 =>
        have r33835 : ref20_Build_B5 (ref20_Build_J4 x1 x0_1 v987) v993 v994 v995 x0_1 (ref20_Build_L5 (ref20_Build_J4 x1 x0_1 v987) v993 v994 v995 x0_1 xs33837) x33836 v33820 = some r := r33826; clear r33826; unfold ref20_Build_B5 at r33835; try dsimp only at r33835
        refine Cov.seq ?_;refine Cov.region rfl ?_;refine Cov.q .ro (.lss rfl rfl) rfl ?_;refine Cov.region_end ?_;refine Cov.seq ?_
        refine Cov.cond_dec rfl (fun _ => ?_) (fun c => absurd (drop_lt g33815) c)
        refine Cov.skip ?_;refine Cov.seq ?_;refine Cov.block ?_;refine Cov.seq ?_;refine Cov.region rfl ?_
        obtain ⟨c33838, p33839, h33840⟩ := OL.get (OL.mono e33817 o991) (drop_idx g33815)
        obtain ⟨_, _, rfl, rfl, rfl⟩ := h33840
        refine Cov.q .ro (.idxO 1 rfl rfl rfl (drop_idx g33815) sl32 ty63.sz) rfl ?_;refine Cov.q .ro (.loadO_a 1 0 [_, _] rfl (drop_idx g33815) p33839 rfl (.inl ⟨rfl, rfl⟩) ty63 rfl) rfl ?_
        refine Cov.alloc .ro ty63 rfl (fun b33841 hb33841 => ?_)
        refine Cov.store 0 [_, _] [_, _, _] .ro rfl rfl rfl ty63 rfl rfl rfl rfl ?_;refine Cov.region_end ?_;refine Cov.seq ?_;refine Cov.region rfl ?_;refine Cov.q .ro (.load_own_a 2 [_, _] rfl rfl ty28 rfl) rfl ?_;refine Cov.q .ro (.fieldAddr 0 rfl fl63_0 ty9.sz rfl) rfl ?_;refine Cov.q .ro (.load_own 0 rfl rfl ty9 rfl) rfl ?_
        obtain ⟨u33842, hu33842, r33843⟩ := bind_some r33835; clear r33835
        refine Cov.callS (b1 := []) (b2 := [_, _, _]) (s1 := []) [_, _] [] .ro rfl rfl Try.call39 rfl rfl (ref20_Homes_c (G := G33816) List.mem_cons_self (SlR.mono e33817 s0_1) hu33842) rfl (fun v33845 bo so h33844 => ?_)
        obtain ⟨a33847, k33848, cs33849, rfl, rfl, rfl, o33850⟩ := h33844
        refine Cov.same (bl' := [_, _, _]) (sl' := [_, _, _]) rfl rfl rfl ?_;refine Cov.q .ro (.move rfl) rfl ?_;refine Cov.q .ro (.extract rfl rfl) rfl ?_;refine Cov.q .ro (.extract rfl rfl) rfl ?_;refine Cov.q .ro (.assign rfl) rfl ?_;refine Cov.q .ro (.assign rfl) rfl ?_;refine Cov.region_end ?_;refine Cov.region rfl ?_;refine Cov.q .ro (.move rfl) rfl ?_
        refine Cov.q .ro (.move rfl) rfl ?_
        refine Cov.freezeR 0 rfl rfl o33850 [_, _] rfl B33818 (fun G33851 e33852 B33853 s33854 => ?_)
        refine Cov.lit [_] [(0, _)] .ro sl55 ty39 rfl rfl rfl rfl rfl rfl (fun b33856 hb33856 => ?_)
        have o33857 : OL (Rep.sl (Rep.int .i64)) G33851 [.slice a33847 u33842.1.length k33848] ([u33842.1] : List (List Int)) := ((OL.cons rfl (Rep.slI s33854) (OL.nil (Rp' := (Rep.sl (Rep.int .i64))))) :)
        refine Cov.reval 114 (n' := ([u33842.1] : List (List Int)).length) rfl rfl ?_
        obtain ⟨u33863, hu33863, r33864⟩ := bind_some r33843; clear r33843
        refine Cov.appO (Q := (Rep.sl (Rep.int .i64))) 0 .ro sl55 ty39 rfl rfl rfl rfl rfl rfl (OL.mono e33852 o33824) o33857 rfl rfl rfl B33853 hu33863 rfl (fun a33859 k33860 cs33861 o33862 => ?_)
        refine Cov.q .ro (.assign rfl) rfl ?_;refine Cov.region_end ?_;refine Cov.prune [(14, _), (101, _), (8, _), (1, _), (3, _), (6, _), (99, _), (100, _)] ⟨rfl, rfl, rfl, rfl, rfl, rfl, rfl, rfl, trivial⟩ ?_;refine Cov.inBlock ?_;refine Cov.region rfl ?_;refine Cov.q .ro (.addw rfl rfl) rfl ?_;refine Cov.q .ro (.move rfl) rfl ?_;refine Cov.region_end ?_;refine Cov.drop 1 0 [_, _] _ rfl rfl ?_
        refine Cov.prune _ ?_ (Cov.same rfl rfl rfl (hb33827 ((i33813 + 1), xs33837, G33851, u33863, a33859, k33860, cs33861) ⟨(HpLe.trans e33817 e33852), B33853, o33862, (drop_succ g33815), r33864⟩ (Nat.lt_succ_self _)))
        exact ⟨rfl, (congrArg (fun z => some (Value.int .i64 z)) (idx_wrap (OL.len' o991) g33815)), rfl, rfl, rfl, rfl, rfl, rfl, trivial⟩
     ·intro hb33866
      refine Cov.block ?_;refine Cov.own_nil 63 2 ?_;refine Cov.pull 1 rfl [_, _] rfl ?_;refine Cov.pull 1 rfl [_, _] rfl ?_
      refine Cov.loop2 (α := Nat × (List (ByteArray × Int)) × (List (ByteArray × Int)) × Option Addr × Nat × List Value × Int × Int × Int) (fun y => [(8, .slice y.2.2.2.1 y.2.2.1.length y.2.2.2.2.1), (41, .int .i64 (y.1 : Int))]) [(1, _), (2, _), (3, _), (6, _), (39, _), (40, _)] (fun y => []) (fun y => [(b2, .cells #[.int .i64 y.2.2.2.2.2.2.1, .slice none 0 0, .int .i64 y.2.2.2.2.2.2.2.1, .slice none 0 0] 31 (0, 0)), (b1, .cells #[.int .i64 y.2.2.2.2.2.2.2.2, .slice a0_1 x0_1.length k0_1] 28 (0, 0))]) [] (fun y => [.s (.slice y.2.2.2.1 y.2.2.1.length y.2.2.2.2.1) 63 2 y.2.2.1.length y.2.2.2.2.2.1]) [] (fun y => OL (Rep.pair Rep.str (Rep.int .i64)) G y.2.2.2.2.2.1 y.2.2.1 ∧ List.drop y.1 x2 = y.2.1 ∧ ref20_Build_L11 (ref20_Build_J6 x1 x0_1) x2 y.2.1 y.1 y.2.2.1 y.2.2.2.2.2.2.1 y.2.2.2.2.2.2.2.1 y.2.2.2.2.2.2.2.2 = some r) (fun y => y.2.1.length) (0, x2, ([] : List (ByteArray × Int)), none, 0, [], 0, 0, x0_0) ⟨(OL.nil (Rp' := (Rep.pair Rep.str (Rep.int .i64)))), rfl, r19⟩ ⟨rfl, rfl, rfl, rfl, rfl, rfl, rfl, rfl, trivial⟩ rfl rfl rfl (fun y hI hb34514 => ?_)
      obtain ⟨i34501, w34502, v34504, a34505, k34506, cs34507, v34510, v34511, v34512⟩ := y
      obtain ⟨o34508, g34503, r34513⟩ := hI
      try dsimp only at o34508 g34503 r34513
      refine Cov.prune [(8, .slice a34505 v34504.length k34506), (41, .int .i64 (i34501 : Int)), (1, _), (2, _), (3, _), (6, _), (39, _), (40, _)] ⟨rfl, rfl, rfl, rfl, rfl, rfl, rfl, rfl, trivial⟩ ?_;refine Cov.same (bl' := [(b2, .cells #[.int .i64 v34510, .slice none 0 0, .int .i64 v34511, .slice none 0 0] 31 (0, 0)), (b1, .cells #[.int .i64 v34512, .slice a0_1 x0_1.length k0_1] 28 (0, 0))]) (sl' := [.s (.slice a34505 v34504.length k34506) 63 2 v34504.length cs34507]) (Fs' := G :: Fs) rfl rfl rfl ?_
      cases w34502 with
      | nil =>
       rw [ref20_Build_L11] at r34513; try dsimp only at r34513
       refine Cov.seq ?_;refine Cov.region rfl ?_;refine Cov.q .ro (.lss rfl rfl) rfl ?_;refine Cov.region_end ?_;refine Cov.seq ?_
       refine Cov.cond_dec rfl (fun c => absurd c (drop_nil g34503)) (fun _ => ?_)
       refine Cov.exit rfl ?_
       refine Cov.prune _ ?_ (Cov.same rfl rfl rfl (hb33866 (v34504, a34505, k34506, cs34507, v34510, v34511, v34512) ⟨o34508, r34513⟩))
       exact ⟨rfl, rfl, rfl, rfl, trivial⟩
      | cons x34520 xs34521 =>
       have r34519 : ref20_Build_B11 (ref20_Build_J6 x1 x0_1) x2 (ref20_Build_L11 (ref20_Build_J6 x1 x0_1) x2 xs34521 (i34501 + 1)) x34520 i34501 v34504 v34510 v34511 v34512 = some r := r34513; clear r34513; unfold ref20_Build_B11 at r34519; try dsimp only at r34519
       refine Cov.seq ?_;refine Cov.region rfl ?_;refine Cov.q .ro (.lss rfl rfl) rfl ?_;refine Cov.region_end ?_;refine Cov.seq ?_
       refine Cov.cond_dec rfl (fun _ => ?_) (fun c => absurd (drop_lt g34503) c)
       refine Cov.skip ?_;refine Cov.seq ?_;refine Cov.block ?_;refine Cov.seq ?_;refine Cov.region rfl ?_;refine Cov.q .ro (.move rfl) rfl ?_
       obtain ⟨c34522, p34523, h34524⟩ := SlR.get s2 (drop_idx g34503)
       obtain ⟨_, _, rfl, rfl, rfl⟩ := h34524
       refine Cov.q .ro (.idxR s2 rfl rfl (drop_idx g34503) sl32 ty63.sz) rfl ?_;refine Cov.q .ro (.load_rp_a [_, _] p34523 List.mem_cons_self rfl ty63 rfl) rfl ?_
       refine Cov.alloc .ro ty63 rfl (fun b34525 hb34525 => ?_)
       refine Cov.q .ro (.assign rfl) rfl ?_;refine Cov.store 0 [_, _] [_, _, _] .ro rfl rfl rfl ty63 rfl rfl rfl rfl ?_;refine Cov.region_end ?_;refine Cov.seq ?_;refine Cov.seq ?_;refine Cov.region rfl ?_;refine Cov.q .ro (.load_own_a 0 [_, _] rfl rfl ty63 rfl) rfl ?_
       obtain ⟨u34526, hu34526, r34527⟩ := bind_some r34519; clear r34519
       refine Cov.callS (b1 := []) (b2 := [_, _, _]) (s1 := []) [_] [] .ro rfl rfl Try.call38 rfl rfl (ref20_valid_c (G := G) List.mem_cons_self  hu34526) rfl (fun v34529 bo so h34528 => ?_)
       obtain ⟨rfl, rfl, rfl⟩ := h34528
       refine Cov.same (bl' := [_, _, _]) (sl' := [_]) rfl rfl rfl ?_;refine Cov.q .ro (.not rfl) rfl ?_;refine Cov.region_end ?_
       refine Cov.cond rfl (fun c34530 => ?_) (fun c34530 => ?_)
       ·have r34531 := ifT r34527 c34530; clear r34527
        refine Cov.seq ?_;refine Cov.region rfl ?_;refine Cov.q .ro (.build [_, _, _, _] [] ty31 pl31 rfl rfl) rfl ?_;refine Cov.store 1 [_, _, _, _] [_, _, _] .ro rfl rfl rfl ty31 rfl rfl rfl rfl ?_;refine Cov.q .ro (.assign rfl) rfl ?_;refine Cov.region_end ?_;refine Cov.prune [(6, _), (7, _)] ⟨rfl, rfl, trivial⟩ ?_
        cases r34531
        refine Cov.drop 0 1 _ [] rfl rfl ?_
        refine Cov.retWD 3 (c := ⟨19, none⟩) (.inr ⟨_, rfl⟩) [.cell 6 31, .tmp 7] [_, _] rfl Try.func19 Try.results19 ⟨RV.cell_a 1 [_, _, _, _] rfl rfl ty31 rfl, RV.tmp rfl, trivial⟩ (fun _ h => List.mem_cons_of_mem _ h) List.mem_cons_self B0 (by subst hS0; simp [blks]) (fun G' hg => ⟨none, 0, none, 0, rfl, rfl, rfl, (SlR.mono hg (SlR.nil (Rp' := (Rep.pair (Rep.int .i64) (Rep.int .i64))))), (SlR.mono hg (SlR.nil (Rp' := (Rep.sl (Rep.pair Rep.str (Rep.int .i64))))))⟩)
       ·have r34532 := ifBF r34527 c34530; clear r34527
        refine Cov.skip ?_;refine Cov.seq ?_;refine Cov.seq ?_;refine Cov.region rfl ?_;refine Cov.q .ro (.move rfl) rfl ?_;refine Cov.q .ro (.move rfl) rfl ?_
        obtain ⟨u34533, hu34533, r34534⟩ := bind_some r34532; clear r34532
        obtain ⟨a34535, k34536, h34537, s34538⟩ := SlR.sub s2 hu34533
        refine Cov.q .ro (.sliceR s2 rfl hu34533 sl32 ty63.sz (fun _ => .no) (fun h => .yes' rfl h) h34537) rfl ?_;refine Cov.q .ro (.len_sl rfl rfl sl32) rfl ?_;refine Cov.q .ro (.move rfl) rfl ?_;refine Cov.region_end ?_;refine Cov.cutB (β := ByteArray × Int × Int × Int × Int) (fun y => []) [(8, _), (41, _), (1, _), (2, _), (3, _), (6, _), (39, _), (40, _), (10, _)] (fun y => G :: Fs) (fun y => [(b34525, .cells #[.string y.1, .int .i64 y.2.1] 63 (0, 0)), (b2, .cells #[.int .i64 y.2.2.1, .slice none 0 0, .int .i64 y.2.2.2.1, .slice none 0 0] 31 (0, 0)), (b1, .cells #[.int .i64 y.2.2.2.2, .slice a0_1 x0_1.length k0_1] 28 (0, 0))]) [] (fun y => []) [_] (fun y => (ref20_Build_J9 (ref20_Build_L11 (ref20_Build_J6 x1 x0_1) x2 xs34521 (i34501 + 1)) v34504) y.1 y.2.1 y.2.2.1 y.2.2.2.1 y.2.2.2.2 = some r) ⟨rfl, rfl, rfl, rfl, rfl, rfl, rfl, rfl, rfl, trivial⟩ [] rfl [0] rfl ?_ ?_
        ·intro y hI
         obtain ⟨v34587, v34588, v34589, v34590, v34591⟩ := y
         have r34593 := hI; clear hI
         try dsimp only at r34593
         refine Cov.prune [(8, _), (41, _), (1, _), (2, _), (3, _), (6, _), (39, _), (40, _), (10, _)] ⟨rfl, rfl, rfl, rfl, rfl, rfl, rfl, rfl, rfl, trivial⟩ ?_;refine Cov.same (bl' := [(b34525, .cells #[.string v34587, .int .i64 v34588] 63 (0, 0)), (b2, .cells #[.int .i64 v34589, .slice none 0 0, .int .i64 v34590, .slice none 0 0] 31 (0, 0)), (b1, .cells #[.int .i64 v34591, .slice a0_1 x0_1.length k0_1] 28 (0, 0))]) (sl' := [_]) (Fs' := G :: Fs) rfl rfl rfl ?_
         unfold ref20_Build_J9 at r34593
         try dsimp only at r34593
         refine Cov.seq ?_;refine Cov.region rfl ?_;refine Cov.q .ro (.move rfl) rfl ?_;refine Cov.q .ro (.len_sl rfl rfl sl32) rfl ?_;refine Cov.q .ro (.assign rfl) rfl ?_;refine Cov.region_end ?_;refine Cov.seq ?_;refine Cov.cutB (β := Int × ByteArray × Int × Int × Int × Int) (fun y => [(13, .int .i64 y.1)]) [(8, _), (41, _), (1, _), (2, _), (3, _), (6, _), (39, _), (40, _), (10, _)] (fun y => G :: Fs) (fun y => [(b34525, .cells #[.string y.2.1, .int .i64 y.2.2.1] 63 (0, 0)), (b2, .cells #[.int .i64 y.2.2.2.1, .slice none 0 0, .int .i64 y.2.2.2.2.1, .slice none 0 0] 31 (0, 0)), (b1, .cells #[.int .i64 y.2.2.2.2.2, .slice a0_1 x0_1.length k0_1] 28 (0, 0))]) [] (fun y => []) [_] (fun y => (ref20_Build_J7 (ref20_Build_L11 (ref20_Build_J6 x1 x0_1) x2 xs34521 (i34501 + 1)) v34504) y.1 y.2.1 y.2.2.1 y.2.2.2.1 y.2.2.2.2.1 y.2.2.2.2.2 = some r) ⟨rfl, rfl, rfl, rfl, rfl, rfl, rfl, rfl, rfl, trivial⟩ [] rfl [0] rfl ?_ ?_
         ·intro y hI
          obtain ⟨v34669, v34670, v34671, v34672, v34673, v34674⟩ := y
          have r34676 := hI; clear hI
          try dsimp only at r34676
          refine Cov.prune [(13, .int .i64 v34669), (8, _), (41, _), (1, _), (2, _), (3, _), (6, _), (39, _), (40, _), (10, _)] ⟨rfl, rfl, rfl, rfl, rfl, rfl, rfl, rfl, rfl, rfl, trivial⟩ ?_;refine Cov.same (bl' := [(b34525, .cells #[.string v34670, .int .i64 v34671] 63 (0, 0)), (b2, .cells #[.int .i64 v34672, .slice none 0 0, .int .i64 v34673, .slice none 0 0] 31 (0, 0)), (b1, .cells #[.int .i64 v34674, .slice a0_1 x0_1.length k0_1] 28 (0, 0))]) (sl' := [_]) (Fs' := G :: Fs) rfl rfl rfl ?_
          unfold ref20_Build_J7 at r34676
          try dsimp only at r34676
          refine Cov.seq ?_;refine Cov.region rfl ?_;refine Cov.q .ro (.move rfl) rfl ?_;refine Cov.q .ro (.build [_, _] [] ty63 pl63 rfl rfl) rfl ?_
          refine Cov.lit [_, _] [(0, _)] .ro sl32 ty63 rfl rfl rfl rfl rfl rfl (fun b34683 hb34683 => ?_)
          have o34684 : OL (Rep.pair Rep.str (Rep.int .i64)) G [.string ByteArray.empty, .int .i64 0] ([(ByteArray.empty, 0)] : List (ByteArray × Int)) := ((OL.cons rfl (Rep.pairI (Rep.strI ByteArray.empty) (Rep.intI .i64 0)) (OL.nil (Rp' := (Rep.pair Rep.str (Rep.int .i64))))) :)
          refine Cov.reval 84 (n' := ([(ByteArray.empty, 0)] : List (ByteArray × Int)).length) rfl rfl ?_
          obtain ⟨u34690, hu34690, r34691⟩ := bind_some r34676; clear r34676
          refine Cov.appO (Q := (Rep.pair Rep.str (Rep.int .i64))) 0 .ro sl32 ty63 rfl rfl rfl rfl rfl rfl o34508 o34684 rfl rfl rfl B0 hu34690 rfl (fun a34686 k34687 cs34688 o34689 => ?_)
          refine Cov.q .ro (.assign rfl) rfl ?_;refine Cov.region_end ?_;refine Cov.seq ?_;refine Cov.drawL (.q 0 (.q 1 (.q 2 (.q 3 (.q 4 (.q 5 (.q 6 (.e 7 2 .nil)))))))) [_, _, _] (by kernel_rfl) (by kernel_rfl) (pick_mem [0, 1, 2] rfl) ?_;refine Cov.dq (.move rfl) rfl ?_;refine Cov.dq (.move rfl) rfl ?_;refine Cov.dq (.addw rfl rfl) rfl ?_
          refine Cov.owncap 0 rfl (fun h34693 => ?_)
          obtain ⟨u34694, hu34694, r34695⟩ := bind_some r34691; clear r34691
          refine Cov.dq (.sliceP rfl (PartV.all h34693) hu34694 sl32 ty63.sz (fun h => .yes' rfl h) (fun _ => .no)) rfl ?_;refine Cov.dq (.move rfl) rfl ?_;refine Cov.dq (.move rfl) rfl ?_
          refine Cov.owncap 0 rfl (fun h34696 => ?_)
          obtain ⟨u34697, hu34697, r34698⟩ := bind_some r34695; clear r34695
          refine Cov.dq (.sliceP rfl (PartV.all h34696) hu34697 sl32 ty63.sz (fun h => .yes' rfl h) (fun _ => .no)) rfl ?_
          obtain ⟨u34699, hu34699, r34700⟩ := bind_some r34698; clear r34698
          obtain ⟨u34701, hu34701, r34702⟩ := bind_some r34700; clear r34700
          refine Cov.copyG 0 (Q := (Rep.pair Rep.str (Rep.int .i64))) .d2 sl32 ty63.sz rfl o34689 hu34699 rfl (PartV.psub (PartV.all h34693) hu34694) rfl (SrcV.osub 0 rfl o34689 (PartV.psub (PartV.all h34696) hu34697) hu34701) rfl (fun cs34703 hlcs34703 o34704 => ?_)
          refine Cov.reval 8 hlcs34703 rfl ?_;refine Cov.reval 85 hlcs34703 rfl ?_;refine Cov.reval 86 hlcs34703 rfl ?_;refine Cov.reval 90 hlcs34703 rfl ?_;refine Cov.draw_end ?_;refine Cov.region rfl ?_;refine Cov.q .ro (.move rfl) rfl ?_;refine Cov.q .ro (.move rfl) rfl ?_;refine Cov.q .ro (.load_own_a 0 [_, _] rfl rfl ty63 rfl) rfl ?_
          obtain ⟨u34706, hu34706, r34707⟩ := bind_some r34702; clear r34702
          obtain ⟨c34708, p34709, h34710⟩ := OL.get o34704 hu34706
          obtain ⟨_, _, rfl, rfl, rfl⟩ := h34710
          refine Cov.q .ro (.idxO 0 rfl rfl rfl hu34706 sl32 ty63.sz) rfl ?_
          obtain ⟨u34711, hu34711, r34712⟩ := bind_some r34707; clear r34707
          refine Cov.storeR 0 0 (Q := (Rep.pair Rep.str (Rep.int .i64))) .ro rfl rfl o34704 hu34711 rfl (.inl ⟨rfl, rfl⟩) rfl ty63 p34709 ((Rep.pairI (Rep.strI v34670) (Rep.intI .i64 v34671)) :) rfl rfl (fun cs34713 hlcs34713 o34714 => ?_)
          refine Cov.reval 8 hlcs34713 rfl ?_;refine Cov.reval 85 hlcs34713 rfl ?_;refine Cov.reval 86 hlcs34713 rfl ?_;refine Cov.reval 90 hlcs34713 rfl ?_;refine Cov.reval 94 hlcs34713 rfl ?_;refine Cov.region_end ?_;refine Cov.prune [(8, _), (41, _), (1, _), (2, _), (3, _), (6, _), (39, _), (40, _)] ⟨rfl, rfl, rfl, rfl, rfl, rfl, rfl, rfl, trivial⟩ ?_;refine Cov.inBlock ?_;refine Cov.region rfl ?_
          refine Cov.q .ro (.addw rfl rfl) rfl ?_;refine Cov.q .ro (.move rfl) rfl ?_;refine Cov.region_end ?_;refine Cov.drop 1 0 [_, _] _ rfl rfl ?_
          refine Cov.prune _ ?_ (Cov.same rfl rfl rfl (hb34514 ((i34501 + 1), xs34521, u34711, a34686, k34687, cs34713, v34672, v34673, v34674) ⟨o34714, (drop_succ g34503), r34712⟩ (Nat.lt_succ_self _)))
          exact ⟨rfl, (congrArg (fun z => some (Value.int .i64 z)) (idx_wrap (SlR.len s2) g34503)), rfl, rfl, rfl, rfl, rfl, rfl, trivial⟩
         ·intro hb34716
          refine Cov.block ?_
          refine Cov.loop2 (α := Nat × Int) (fun y => [(13, .int .i64 y.2)]) [(8, _), (41, _), (1, _), (2, _), (3, _), (6, _), (39, _), (40, _), (10, _)] (fun y => []) (fun y => []) [_, _, _] (fun y => []) [_] (fun y => ref20_Build_L8 (ref20_Build_J7 (ref20_Build_L11 (ref20_Build_J6 x1 x0_1) x2 xs34521 (i34501 + 1)) v34504) v34587 v34588 v34589 v34590 v34591 v34504 y.1 y.2 = some r) (fun y => y.1) (big, (v34504.length : Int)) r34593 ⟨rfl, rfl, rfl, rfl, rfl, rfl, rfl, rfl, rfl, rfl, trivial⟩ rfl rfl rfl (fun y hI hb34750 => ?_)
          obtain ⟨n34746, v34748⟩ := y
          have r34749 := hI; clear hI
          try dsimp only at r34749
          refine Cov.prune [(13, .int .i64 v34748), (8, _), (41, _), (1, _), (2, _), (3, _), (6, _), (39, _), (40, _), (10, _)] ⟨rfl, rfl, rfl, rfl, rfl, rfl, rfl, rfl, rfl, rfl, trivial⟩ ?_;refine Cov.same (bl' := [_, _, _]) (sl' := [_]) (Fs' := G :: Fs) rfl rfl rfl ?_
          obtain ⟨m34763, rfl⟩ : ∃ m, n34746 = m + 1 := by cases n34746 with | zero => exact absurd (show (none : Option _) = some _ from r34749) (by simp) | succ m => exact ⟨m, rfl⟩
          have r34762 : ref20_Build_B8 (ref20_Build_J7 (ref20_Build_L11 (ref20_Build_J6 x1 x0_1) x2 xs34521 (i34501 + 1)) v34504) v34587 v34588 v34589 v34590 v34591 v34504 (ref20_Build_L8 (ref20_Build_J7 (ref20_Build_L11 (ref20_Build_J6 x1 x0_1) x2 xs34521 (i34501 + 1)) v34504) v34587 v34588 v34589 v34590 v34591 v34504 m34763) v34748 = some r := r34749; clear r34749; unfold ref20_Build_B8 at r34762; try dsimp only at r34762
          refine Cov.seq ?_;refine Cov.seq ?_;refine Cov.drawL (.q 0 (.q 1 (.q 2 (.q 3 (.q 4 (.q 5 (.q 9 (.q 10 (.e 6 1 (.e 7 1 (.e 8 1 (.q 11 (.q 12 .nil))))))))))))) [_, _, _] (by kernel_rfl) (by kernel_rfl) (pick_mem [0, 1, 2] rfl) ?_;refine Cov.dq (.move rfl) rfl ?_;refine Cov.dq (.gtr rfl rfl) rfl ?_;refine Cov.dq (.move rfl) rfl ?_
          obtain ⟨u34771, h34772, r34773⟩ := bind_some r34762; clear r34762
          refine Cov.cutD 10 (β := Unit) (fun y => [(79, .bool u34771)]) [(13, _), (8, _), (41, _), (1, _), (2, _), (3, _), (6, _), (39, _), (40, _), (10, _)] (fun y => G :: Fs) (fun y => []) [_, _, _] (fun y => []) [_] (fun y => True) ⟨rfl, rfl, rfl, rfl, rfl, rfl, rfl, rfl, rfl, rfl, trivial⟩ [0, 1, 2] rfl [0] rfl ?_ ?_
          ·rintro _ _
           refine Cov.prune [(79, .bool u34771), (13, _), (8, _), (41, _), (1, _), (2, _), (3, _), (6, _), (39, _), (40, _), (10, _)] ⟨rfl, rfl, rfl, rfl, rfl, rfl, rfl, rfl, rfl, rfl, rfl, trivial⟩ ?_;refine Cov.same (bl' := [_, _, _]) (sl' := [_]) (Fs' := G :: Fs) rfl rfl rfl ?_;refine Cov.draw_end ?_
           refine Cov.cond rfl (fun c34776 => ?_) (fun c34776 => ?_)
           ·have r34777 := ifT r34773 c34776; clear r34773
            refine Cov.skip ?_;refine Cov.block ?_;refine Cov.region rfl ?_;refine Cov.q .ro (.move rfl) rfl ?_;refine Cov.q .ro (.subw rfl rfl) rfl ?_;refine Cov.q .ro (.assign rfl) rfl ?_;refine Cov.region_end ?_;refine Cov.inBlock ?_
            refine Cov.prune _ ?_ (Cov.same rfl rfl rfl (hb34750 (m34763, (w64 (v34748 - 1))) r34777 (Nat.lt_succ_self _)))
            exact ⟨rfl, rfl, rfl, rfl, rfl, rfl, rfl, rfl, rfl, rfl, trivial⟩
           ·have r34778 := ifBF r34773 c34776; clear r34773
            refine Cov.exit rfl ?_
            refine Cov.prune _ ?_ (Cov.same rfl rfl rfl (hb34716 (v34748, v34587, v34588, v34589, v34590, v34591) r34778))
            exact ⟨rfl, rfl, rfl, rfl, rfl, rfl, rfl, rfl, rfl, rfl, trivial⟩
          ·intro hb34770
           refine Cov.split 69 rfl (fun c34769 => ?_) (fun c34769 => ?_)
           ·have r34779 := ifT h34772 c34769
            refine Cov.dgq_on rfl ?_;refine Cov.dq (.move rfl) rfl ?_;refine Cov.dgq_on rfl ?_;refine Cov.dq (.move rfl) rfl ?_;refine Cov.dgq_on rfl ?_;refine Cov.dq (.subw rfl rfl) rfl ?_;refine Cov.dgq_on rfl ?_;refine Cov.dq (.fieldAddr 0 rfl fl63_0 ty9.sz rfl) rfl ?_;refine Cov.dgq_on rfl ?_
            refine Cov.dq (.load_own 0 rfl rfl ty9 rfl) rfl ?_;refine Cov.dge_on rfl ?_
            obtain ⟨u34780, hu34780, r34781⟩ := bind_some r34779; clear r34779
            obtain ⟨c34782, p34783, h34784⟩ := OL.get o34508 hu34780
            obtain ⟨_, _, rfl, rfl, rfl⟩ := h34784
            refine Cov.q .d1 (.idxO 0 rfl rfl rfl hu34780 sl32 ty63.sz) rfl ?_;refine Cov.clsL (HpLe.refl _) (pick_mem [0, 1, 2] rfl) ?_;refine Cov.dge_on rfl ?_;refine Cov.q .d1 (.fieldO 0 0 rfl hu34780 rfl (.inl ⟨rfl, rfl⟩) fl63_0 ty9.sz) rfl ?_;refine Cov.clsL (HpLe.refl _) (pick_mem [0, 1, 2] rfl) ?_;refine Cov.dge_on rfl ?_;refine Cov.q .d1 (.loadO 0 0 rfl hu34780 p34783 rfl (.inr rfl) ty9 rfl) rfl ?_;refine Cov.clsL (HpLe.refl _) (pick_mem [0, 1, 2] rfl) ?_;refine Cov.dgq_on rfl ?_
            refine Cov.dq (.gtr_d rfl rfl) rfl ?_;refine Cov.dq (.pick_t rfl rfl) rfl ?_
            refine Cov.prune _ ?_ (Cov.same rfl rfl rfl (hb34770 () trivial))
            exact ⟨sval r34781, rfl, rfl, rfl, rfl, rfl, rfl, rfl, rfl, rfl, rfl, trivial⟩
           ·have r34785 := ifF h34772 c34769
            refine Cov.dgq_off rfl rfl rfl ?_;refine Cov.dgq_off rfl rfl rfl ?_;refine Cov.dgq_off rfl rfl rfl ?_;refine Cov.dgq_off rfl rfl rfl ?_;refine Cov.dgq_off rfl rfl rfl ?_;refine Cov.dge_offL rfl rfl rfl (HpLe.refl _) (pick_mem [0, 1, 2] rfl) ?_;refine Cov.dge_offL rfl rfl rfl (HpLe.refl _) (pick_mem [0, 1, 2] rfl) ?_;refine Cov.dge_offL rfl rfl rfl (HpLe.refl _) (pick_mem [0, 1, 2] rfl) ?_;refine Cov.dgq_off rfl rfl rfl ?_
            refine Cov.dq (.pick_f rfl rfl) rfl ?_
            refine Cov.prune _ ?_ (Cov.same rfl rfl rfl (hb34770 () trivial))
            exact ⟨sval r34785, rfl, rfl, rfl, rfl, rfl, rfl, rfl, rfl, rfl, rfl, trivial⟩
        ·intro hb34786
         refine Cov.block ?_
         refine Cov.loop2 (α := Nat × (List (ByteArray × Int))) (fun y => [(54, .int .i64 (y.1 : Int))]) [(8, _), (41, _), (1, _), (2, _), (3, _), (6, _), (39, _), (40, _), (10, _), (52, _), (53, _)] (fun y => []) (fun y => []) [_, _, _] (fun y => []) [_] (fun y => List.drop y.1 u34533 = y.2 ∧ ref20_Build_L10 (ref20_Build_J9 (ref20_Build_L11 (ref20_Build_J6 x1 x0_1) x2 xs34521 (i34501 + 1)) v34504) x34520.1 x34520.2 v34510 v34511 v34512 y.2  = some r) (fun y => y.2.length) (0, u34533) ⟨rfl, r34534⟩ ⟨rfl, rfl, rfl, rfl, rfl, rfl, rfl, rfl, rfl, rfl, rfl, rfl, trivial⟩ rfl rfl rfl (fun y hI hb34811 => ?_)
         obtain ⟨i34807, w34808⟩ := y
         obtain ⟨g34809, r34810⟩ := hI
         try dsimp only at g34809 r34810
         refine Cov.prune [(54, .int .i64 (i34807 : Int)), (8, _), (41, _), (1, _), (2, _), (3, _), (6, _), (39, _), (40, _), (10, _), (52, _), (53, _)] ⟨rfl, rfl, rfl, rfl, rfl, rfl, rfl, rfl, rfl, rfl, rfl, rfl, trivial⟩ ?_;refine Cov.same (bl' := [_, _, _]) (sl' := [_]) (Fs' := G :: Fs) rfl rfl rfl ?_
         cases w34808 with
         | nil =>
          rw [ref20_Build_L10] at r34810; try dsimp only at r34810
          refine Cov.seq ?_;refine Cov.region rfl ?_;refine Cov.q .ro (.lss rfl rfl) rfl ?_;refine Cov.region_end ?_;refine Cov.seq ?_
          refine Cov.cond_dec rfl (fun c => absurd c (drop_nil g34809)) (fun _ => ?_)
          refine Cov.exit rfl ?_
          refine Cov.prune _ ?_ (Cov.same rfl rfl rfl (hb34786 (x34520.1, x34520.2, v34510, v34511, v34512) r34810))
          exact ⟨rfl, rfl, rfl, rfl, rfl, rfl, rfl, rfl, rfl, trivial⟩
         | cons x34826 xs34827 =>
          have r34825 : ref20_Build_B10 (ref20_Build_J9 (ref20_Build_L11 (ref20_Build_J6 x1 x0_1) x2 xs34521 (i34501 + 1)) v34504) x34520.1 x34520.2 v34510 v34511 v34512 (ref20_Build_L10 (ref20_Build_J9 (ref20_Build_L11 (ref20_Build_J6 x1 x0_1) x2 xs34521 (i34501 + 1)) v34504) x34520.1 x34520.2 v34510 v34511 v34512 xs34827) x34826  = some r := r34810; clear r34810; unfold ref20_Build_B10 at r34825; try dsimp only at r34825
          refine Cov.seq ?_;refine Cov.region rfl ?_;refine Cov.q .ro (.lss rfl rfl) rfl ?_;refine Cov.region_end ?_;refine Cov.seq ?_
          refine Cov.cond_dec rfl (fun _ => ?_) (fun c => absurd (drop_lt g34809) c)
          refine Cov.skip ?_;refine Cov.seq ?_;refine Cov.block ?_;refine Cov.seq ?_;refine Cov.region rfl ?_
          obtain ⟨c34828, p34829, h34830⟩ := SlR.get s34538 (drop_idx g34809)
          obtain ⟨_, _, rfl, rfl, rfl⟩ := h34830
          refine Cov.q .ro (.idxR s34538 rfl rfl (drop_idx g34809) sl32 ty63.sz) rfl ?_;refine Cov.q .ro (.load_rp_a [_, _] p34829 List.mem_cons_self rfl ty63 rfl) rfl ?_
          refine Cov.alloc .ro ty63 rfl (fun b34831 hb34831 => ?_)
          refine Cov.store 0 [_, _] [_, _, _, _] .ro rfl rfl rfl ty63 rfl rfl rfl rfl ?_;refine Cov.region_end ?_;refine Cov.seq ?_;refine Cov.region rfl ?_;refine Cov.q .ro (.fieldAddr 0 rfl fl63_0 ty9.sz rfl) rfl ?_;refine Cov.q .ro (.load_own 0 rfl rfl ty9 rfl) rfl ?_;refine Cov.q .ro (.fieldAddr 0 rfl fl63_0 ty9.sz rfl) rfl ?_;refine Cov.q .ro (.load_own 1 rfl rfl ty9 rfl) rfl ?_;refine Cov.q .ro (.eql_s rfl rfl) rfl ?_
          refine Cov.region_end ?_
          refine Cov.cond_dec rfl (fun c34832 => ?_) (fun c34832 => ?_)
          ·have r34833 := ifT r34825 c34832; clear r34825
           refine Cov.seq ?_;refine Cov.region rfl ?_;refine Cov.q .ro (.build [_, _, _, _] [] ty31 pl31 rfl rfl) rfl ?_;refine Cov.store 2 [_, _, _, _] [_, _, _, _] .ro rfl rfl rfl ty31 rfl rfl rfl rfl ?_;refine Cov.q .ro (.assign rfl) rfl ?_;refine Cov.region_end ?_;refine Cov.prune [(6, _), (7, _)] ⟨rfl, rfl, trivial⟩ ?_
           cases r34833
           refine Cov.drop 0 1 _ [] rfl rfl ?_
           refine Cov.retWD 4 (c := ⟨19, none⟩) (.inr ⟨_, rfl⟩) [.cell 6 31, .tmp 7] [_, _] rfl Try.func19 Try.results19 ⟨RV.cell_a 2 [_, _, _, _] rfl rfl ty31 rfl, RV.tmp rfl, trivial⟩ (fun _ h => List.mem_cons_of_mem _ h) List.mem_cons_self B0 (by subst hS0; simp [blks]) (fun G' hg => ⟨none, 0, none, 0, rfl, rfl, rfl, (SlR.mono hg (SlR.nil (Rp' := (Rep.pair (Rep.int .i64) (Rep.int .i64))))), (SlR.mono hg (SlR.nil (Rp' := (Rep.sl (Rep.pair Rep.str (Rep.int .i64))))))⟩)
          ·have r34834 := ifF r34825 c34832; clear r34825
           refine Cov.skip ?_;refine Cov.inBlock ?_;refine Cov.region rfl ?_;refine Cov.q .ro (.addw rfl rfl) rfl ?_;refine Cov.q .ro (.move rfl) rfl ?_;refine Cov.region_end ?_;refine Cov.drop 1 0 [_, _, _] _ rfl rfl ?_
           refine Cov.prune _ ?_ (Cov.same rfl rfl rfl (hb34811 ((i34807 + 1), xs34827) ⟨(drop_succ g34809), r34834⟩ (Nat.lt_succ_self _)))
           exact ⟨(congrArg (fun z => some (Value.int .i64 z)) (idx_wrap (SlR.len s34538) g34809)), rfl, rfl, rfl, rfl, rfl, rfl, rfl, rfl, rfl, rfl, rfl, trivial⟩
  ·intro hb11
   refine Cov.split 30 rfl (fun c10 => ?_) (fun c10 => ?_)
   ·refine Cov.g_off rfl rfl rfl ?_
    refine Cov.g_off rfl rfl rfl ?_;refine Cov.q .ro (.pick_t rfl rfl) rfl ?_
    refine Cov.prune _ ?_ (Cov.same rfl rfl rfl (hb11 () trivial))
    exact ⟨dor_t c10, rfl, rfl, rfl, rfl, trivial⟩
   ·refine Cov.g_on rfl ?_
    refine Cov.q .ro (.move rfl) rfl ?_;refine Cov.g_on rfl ?_;refine Cov.q .ro (.gtr rfl rfl) rfl ?_;refine Cov.q .ro (.pick_f rfl rfl) rfl ?_
    refine Cov.prune _ ?_ (Cov.same rfl rfl rfl (hb11 () trivial))
    exact ⟨dor_f c10, rfl, rfl, rfl, rfl, trivial⟩
set_option maxHeartbeats 4000000 in
set_option maxRecDepth 100000 in
theorem law35_sane_c {Fs : List Hp} {G : Hp}  {r : Bool} (hG : G ∈ Fs)  (h : law35_sane = some r) : RetS Try.prog 6 #[] Fs [] [] (fun v bo so => v = .bool r ∧ bo = [] ∧ so = []) := by
 unfold law35_sane at h
 try dsimp only at h
 refine RetS.of (vs := []) Try.func6 rfl Try.ntmps6 [] trivial rfl hG fun w0 S0 hS0 B0 => ?_
 refine Cov.seq ?_;refine Cov.region rfl ?_;refine Cov.q .ro (.assign rfl) rfl ?_;refine Cov.region_end ?_;refine Cov.seq ?_;refine Cov.region rfl ?_;refine Cov.q .ro (.build [_, _] [(0, _)] ty70 pl70 rfl rfl) rfl ?_;refine Cov.q .ro (.build [_, _] [(0, _)] ty70 pl70 rfl rfl) rfl ?_
 refine Cov.lit [_, _, _, _] [(0, _), (1, _)] .ro sl26 ty70 rfl rfl rfl rfl rfl rfl (fun b1 hb1 => ?_)
 have o2 : OL (Rep.pair (Rep.int .i64) (Rep.int .i64)) G [.int .i64 1, .int .i64 0, .int .i64 3, .int .i64 0] ([(1, 0), (3, 0)] : List (Int × Int)) := ((OL.cons rfl (Rep.pairI (Rep.intI .i64 1) (Rep.intI .i64 0)) (OL.cons rfl (Rep.pairI (Rep.intI .i64 3) (Rep.intI .i64 0)) (OL.nil (Rp' := (Rep.pair (Rep.int .i64) (Rep.int .i64)))))) :)
 refine Cov.reval 12 (n' := ([(1, 0), (3, 0)] : List (Int × Int)).length) rfl rfl ?_;refine Cov.q .ro (.build [_, _] [(0, _), (1, _)] ty28 pl28 rfl rfl) rfl ?_
 refine Cov.alloc .ro ty28 rfl (fun b4 hb4 => ?_)
 refine Cov.store 0 [_, _] [_] .ro rfl rfl rfl ty28 rfl rfl rfl rfl ?_;refine Cov.region_end ?_;refine Cov.seq ?_;refine Cov.region rfl ?_;refine Cov.q .ro (.load_own_a 0 [_, _] rfl rfl ty28 rfl) rfl ?_;refine Cov.q .ro (.build [_, _] [(0, _), (1, _)] ty63 pl63 rfl rfl) rfl ?_
 refine Cov.lit [_, _] [(0, _)] .ro sl32 ty63 rfl rfl rfl rfl rfl rfl (fun b5 hb5 => ?_)
 have o6 : OL (Rep.pair Rep.str (Rep.int .i64)) G [.string ⟨#[97, 110, 116]⟩, .int .i64 7] ([(⟨#[97, 110, 116]⟩, 7)] : List (ByteArray × Int)) := ((OL.cons rfl (Rep.pairI (Rep.strI ⟨#[97, 110, 116]⟩) (Rep.intI .i64 7)) (OL.nil (Rp' := (Rep.pair Rep.str (Rep.int .i64))))) :)
 refine Cov.reval 17 (n' := ([(⟨#[97, 110, 116]⟩, 7)] : List (ByteArray × Int)).length) rfl rfl ?_
 refine Cov.freezeR 1 rfl rfl o2 [_] rfl B0 (fun G8 e9 B10 s11 => ?_)
 refine Cov.freezeR 0 rfl rfl (OL.mono e9 o6) [] rfl B10 (fun G13 e14 B15 s16 => ?_)
 obtain ⟨u18, hu18, r19⟩ := bind_some h; clear h
 refine Cov.callW (b1 := []) (b2 := [_]) (s1 := []) [_, _, _] [] .ro rfl rfl Try.call19 rfl rfl (ref20_Build_c (G := G13) List.mem_cons_self (SlR.mono e14 s11) s16 hu18) rfl B15 (fun v21 bo so G22 e23 B24 h20 => ?_)
 obtain ⟨a26, k27, a29, k30, rfl, rfl, rfl, s28, s31⟩ := h20
 refine Cov.same (bl' := [_]) (sl' := []) rfl rfl rfl ?_;refine Cov.q .ro (.move rfl) rfl ?_;refine Cov.q .ro (.extract rfl rfl) rfl ?_;refine Cov.q .ro (.extract rfl rfl) rfl ?_
 refine Cov.alloc .ro ty31 rfl (fun b32 hb32 => ?_)
 refine Cov.store 0 [_, _, _, _] [_, _] .ro rfl rfl rfl ty31 rfl rfl rfl rfl ?_;refine Cov.q .ro (.assign rfl) rfl ?_;refine Cov.region_end ?_;refine Cov.prune [(1, _), (2, _)] ⟨rfl, rfl, trivial⟩ ?_;refine Cov.seq ?_;refine Cov.region rfl ?_;refine Cov.q .ro (.build [_] [(0, _)] ty54 pl54 rfl rfl) rfl ?_;refine Cov.q .ro (.load_own_a 0 [_, _, _, _] rfl rfl ty31 rfl) rfl ?_
 obtain ⟨u33, hu33, r34⟩ := bind_some r19; clear r19
 refine Cov.callW (b1 := []) (b2 := [_, _]) (s1 := []) [_, _, _] [] .ro rfl rfl Try.call15 rfl rfl (lookup_Table_c (G := G22) List.mem_cons_self s28 s31 hu33) rfl B24 (fun v36 bo so G37 e38 B39 h35 => ?_)
 obtain ⟨a41, k42, rfl, rfl, rfl, s43⟩ := h35
 refine Cov.same (bl' := [_, _]) (sl' := []) rfl rfl rfl ?_;refine Cov.q .ro (.move rfl) rfl ?_;refine Cov.q .ro (.extract rfl rfl) rfl ?_;refine Cov.q .ro (.extract rfl rfl) rfl ?_
 refine Cov.alloc .ro ty57 rfl (fun b44 hb44 => ?_)
 refine Cov.store 0 [_, _, _, _] [_, _, _] .ro rfl rfl rfl ty57 rfl rfl rfl rfl ?_;refine Cov.q .ro (.assign rfl) rfl ?_;refine Cov.region_end ?_;refine Cov.seq ?_;refine Cov.region rfl ?_;refine Cov.q .ro (.load_own_a 2 [_, _] rfl rfl ty28 rfl) rfl ?_
 obtain ⟨u45, hu45, r46⟩ := bind_some r34; clear r34
 refine Cov.callS (b1 := []) (b2 := [_, _, _]) (s1 := []) [_, _] [] .ro rfl rfl Try.call10 rfl rfl (lookup_Wish_c (G := G37) List.mem_cons_self (SlR.mono (HpLe.trans (HpLe.trans e14 e23) e38) s11) hu45) rfl (fun v48 bo so h47 => ?_)
 obtain ⟨a50, k51, cs52, rfl, rfl, rfl, o53⟩ := h47
 refine Cov.same (bl' := [_, _, _]) (sl' := [_]) rfl rfl rfl ?_;refine Cov.q .ro (.move rfl) rfl ?_;refine Cov.q .ro (.extract rfl rfl) rfl ?_;refine Cov.q .ro (.extract rfl rfl) rfl ?_;refine Cov.q .ro (.assign rfl) rfl ?_;refine Cov.q .ro (.assign rfl) rfl ?_;refine Cov.region_end ?_;refine Cov.prune [(4, _), (5, _), (6, _), (7, _)] ⟨rfl, rfl, rfl, rfl, trivial⟩ ?_;refine Cov.seq ?_
 refine Cov.region rfl ?_
 refine Cov.lit [_, _, _, _] [(0, _), (1, _), (2, _), (3, _)] .ro sl35 ty9 rfl rfl rfl rfl rfl rfl (fun b54 hb54 => ?_)
 have o55 : OL Rep.str G37 [.string ⟨#[97]⟩, .string ⟨#[98]⟩, .string ⟨#[99]⟩, .string ⟨#[100]⟩] ([⟨#[97]⟩, ⟨#[98]⟩, ⟨#[99]⟩, ⟨#[100]⟩] : List ByteArray) := ((OL.cons rfl (Rep.strI ⟨#[97]⟩) (OL.cons rfl (Rep.strI ⟨#[98]⟩) (OL.cons rfl (Rep.strI ⟨#[99]⟩) (OL.cons rfl (Rep.strI ⟨#[100]⟩) (OL.nil (Rp' := Rep.str)))))) :)
 refine Cov.reval 33 (n' := ([⟨#[97]⟩, ⟨#[98]⟩, ⟨#[99]⟩, ⟨#[100]⟩] : List ByteArray).length) rfl rfl ?_;refine Cov.q .ro (.build [_, _] [(0, _), (1, _)] ty37 pl37 rfl rfl) rfl ?_
 refine Cov.freezeR 0 rfl rfl o55 [_] rfl B39 (fun G57 e58 B59 s60 => ?_)
 obtain ⟨u62, hu62, r63⟩ := bind_some r46; clear r46
 refine Cov.callS (b1 := []) (b2 := [_, _, _]) (s1 := []) [_] [] .ro rfl rfl Try.call13 rfl rfl (lookup_Rows_c (G := G57) List.mem_cons_self s60 hu62) rfl (fun v65 bo so h64 => ?_)
 obtain ⟨a67, k68, cs69, rfl, rfl, rfl, o70⟩ := h64
 refine Cov.same (bl' := [_, _, _]) (sl' := [_, _]) rfl rfl rfl ?_;refine Cov.q .ro (.move rfl) rfl ?_;refine Cov.q .ro (.extract rfl rfl) rfl ?_;refine Cov.q .ro (.extract rfl rfl) rfl ?_;refine Cov.q .ro (.assign rfl) rfl ?_;refine Cov.q .ro (.assign rfl) rfl ?_;refine Cov.region_end ?_;refine Cov.seq ?_;refine Cov.region rfl ?_
 obtain ⟨u71, hu71, r72⟩ := bind_some r63; clear r63
 refine Cov.callS (b1 := []) (b2 := [_, _, _]) (s1 := []) [_] [] .ro rfl rfl Try.call16 rfl rfl (lookup_Width_c (G := G57) List.mem_cons_self  hu71) rfl (fun v74 bo so h73 => ?_)
 obtain ⟨rfl, rfl, rfl⟩ := h73
 refine Cov.same (bl' := [_, _, _]) (sl' := [_, _]) rfl rfl rfl ?_;refine Cov.q .ro (.eql rfl rfl) rfl ?_;refine Cov.q .ro (.move rfl) rfl ?_;refine Cov.cutR 3 (β := Unit) (fun y => [(43, .bool (decide ((u71 = 37) ∧ (u33.2 = 0))))]) [(4, _), (6, _), (7, _), (8, _), (9, _)] (fun y => G57 :: Fs) (fun y => []) [_, _, _] (fun y => []) [_, _] (fun y => True) ⟨rfl, rfl, rfl, rfl, rfl, trivial⟩ [0, 1, 2] rfl [0, 1] rfl ?_ ?_
 ·rintro _ _
  refine Cov.prune [(43, .bool (decide ((u71 = 37) ∧ (u33.2 = 0)))), (4, _), (6, _), (7, _), (8, _), (9, _)] ⟨rfl, rfl, rfl, rfl, rfl, rfl, trivial⟩ ?_;refine Cov.same (bl' := [_, _, _]) (sl' := [_, _]) (Fs' := G57 :: Fs) rfl rfl rfl ?_;refine Cov.q .ro (.move rfl) rfl ?_;refine Cov.cutR 5 (β := Unit) (fun y => [(49, .bool (decide (((u71 = 37) ∧ (u33.2 = 0)) ∧ ((u33.1.2.2.2.length : Int) = 4))))]) [(4, _), (6, _), (7, _), (8, _), (9, _)] (fun y => G57 :: Fs) (fun y => []) [_, _, _] (fun y => []) [_, _] (fun y => True) ⟨rfl, rfl, rfl, rfl, rfl, trivial⟩ [0, 1, 2] rfl [0, 1] rfl ?_ ?_
  ·rintro _ _
   refine Cov.prune [(49, .bool (decide (((u71 = 37) ∧ (u33.2 = 0)) ∧ ((u33.1.2.2.2.length : Int) = 4)))), (4, _), (6, _), (7, _), (8, _), (9, _)] ⟨rfl, rfl, rfl, rfl, rfl, rfl, trivial⟩ ?_;refine Cov.same (bl' := [_, _, _]) (sl' := [_, _]) (Fs' := G57 :: Fs) rfl rfl rfl ?_;refine Cov.q .ro (.move rfl) rfl ?_;refine Cov.cutR 4 (β := Unit) (fun y => [(54, .bool (decide ((((u71 = 37) ∧ (u33.2 = 0)) ∧ ((u33.1.2.2.2.length : Int) = 4)) ∧ (u33.1.2.2.1 = 37))))]) [(6, _), (7, _), (8, _), (9, _)] (fun y => G57 :: Fs) (fun y => []) [_, _, _] (fun y => []) [_, _] (fun y => True) ⟨rfl, rfl, rfl, rfl, trivial⟩ [0, 1, 2] rfl [0, 1] rfl ?_ ?_
   ·rintro _ _
    refine Cov.prune [(54, .bool (decide ((((u71 = 37) ∧ (u33.2 = 0)) ∧ ((u33.1.2.2.2.length : Int) = 4)) ∧ (u33.1.2.2.1 = 37)))), (6, _), (7, _), (8, _), (9, _)] ⟨rfl, rfl, rfl, rfl, rfl, trivial⟩ ?_;refine Cov.same (bl' := [_, _, _]) (sl' := [_, _]) (Fs' := G57 :: Fs) rfl rfl rfl ?_;refine Cov.q .ro (.move rfl) rfl ?_;refine Cov.cutR 3 (β := Unit) (fun y => [(58, .bool (decide (((((u71 = 37) ∧ (u33.2 = 0)) ∧ ((u33.1.2.2.2.length : Int) = 4)) ∧ (u33.1.2.2.1 = 37)) ∧ (u45.2 = 0))))]) [(6, _), (8, _), (9, _)] (fun y => G57 :: Fs) (fun y => []) [_, _, _] (fun y => []) [_, _] (fun y => True) ⟨rfl, rfl, rfl, trivial⟩ [0, 1, 2] rfl [0, 1] rfl ?_ ?_
    ·rintro _ _
     refine Cov.prune [(58, .bool (decide (((((u71 = 37) ∧ (u33.2 = 0)) ∧ ((u33.1.2.2.2.length : Int) = 4)) ∧ (u33.1.2.2.1 = 37)) ∧ (u45.2 = 0)))), (6, _), (8, _), (9, _)] ⟨rfl, rfl, rfl, rfl, trivial⟩ ?_;refine Cov.same (bl' := [_, _, _]) (sl' := [_, _]) (Fs' := G57 :: Fs) rfl rfl rfl ?_;refine Cov.q .ro (.move rfl) rfl ?_;refine Cov.cutR 4 (β := Unit) (fun y => [(63, .bool (decide ((((((u71 = 37) ∧ (u33.2 = 0)) ∧ ((u33.1.2.2.2.length : Int) = 4)) ∧ (u33.1.2.2.1 = 37)) ∧ (u45.2 = 0)) ∧ ((u45.1.length : Int) = 2))))]) [(8, _), (9, _)] (fun y => G57 :: Fs) (fun y => []) [_, _, _] (fun y => []) [_, _] (fun y => True) ⟨rfl, rfl, trivial⟩ [0, 1, 2] rfl [0, 1] rfl ?_ ?_
     ·rintro _ _
      refine Cov.prune [(63, .bool (decide ((((((u71 = 37) ∧ (u33.2 = 0)) ∧ ((u33.1.2.2.2.length : Int) = 4)) ∧ (u33.1.2.2.1 = 37)) ∧ (u45.2 = 0)) ∧ ((u45.1.length : Int) = 2)))), (8, _), (9, _)] ⟨rfl, rfl, rfl, trivial⟩ ?_;refine Cov.same (bl' := [_, _, _]) (sl' := [_, _]) (Fs' := G57 :: Fs) rfl rfl rfl ?_;refine Cov.q .ro (.move rfl) rfl ?_;refine Cov.cutR 3 (β := Unit) (fun y => [(67, .bool (decide (((((((u71 = 37) ∧ (u33.2 = 0)) ∧ ((u33.1.2.2.2.length : Int) = 4)) ∧ (u33.1.2.2.1 = 37)) ∧ (u45.2 = 0)) ∧ ((u45.1.length : Int) = 2)) ∧ (u62.2 = 0))))]) [(8, _)] (fun y => G57 :: Fs) (fun y => []) [_, _, _] (fun y => []) [_, _] (fun y => True) ⟨rfl, trivial⟩ [0, 1, 2] rfl [0, 1] rfl ?_ ?_
      ·rintro _ _
       refine Cov.prune [(67, .bool (decide (((((((u71 = 37) ∧ (u33.2 = 0)) ∧ ((u33.1.2.2.2.length : Int) = 4)) ∧ (u33.1.2.2.1 = 37)) ∧ (u45.2 = 0)) ∧ ((u45.1.length : Int) = 2)) ∧ (u62.2 = 0)))), (8, _)] ⟨rfl, rfl, trivial⟩ ?_;refine Cov.same (bl' := [_, _, _]) (sl' := [_, _]) (Fs' := G57 :: Fs) rfl rfl rfl ?_;refine Cov.q .ro (.move rfl) rfl ?_;refine Cov.cutR 4 (β := Unit) (fun y => [(72, .bool (decide ((((((((u71 = 37) ∧ (u33.2 = 0)) ∧ ((u33.1.2.2.2.length : Int) = 4)) ∧ (u33.1.2.2.1 = 37)) ∧ (u45.2 = 0)) ∧ ((u45.1.length : Int) = 2)) ∧ (u62.2 = 0)) ∧ ((u62.1.length : Int) = 2))))]) [(8, _)] (fun y => G57 :: Fs) (fun y => []) [_, _, _] (fun y => []) [_, _] (fun y => True) ⟨rfl, trivial⟩ [0, 1, 2] rfl [0, 1] rfl ?_ ?_
       ·rintro _ _
        refine Cov.prune [(72, .bool (decide ((((((((u71 = 37) ∧ (u33.2 = 0)) ∧ ((u33.1.2.2.2.length : Int) = 4)) ∧ (u33.1.2.2.1 = 37)) ∧ (u45.2 = 0)) ∧ ((u45.1.length : Int) = 2)) ∧ (u62.2 = 0)) ∧ ((u62.1.length : Int) = 2)))), (8, _)] ⟨rfl, rfl, trivial⟩ ?_;refine Cov.same (bl' := [_, _, _]) (sl' := [_, _]) (Fs' := G57 :: Fs) rfl rfl rfl ?_;refine Cov.q .ro (.move rfl) rfl ?_
        obtain ⟨u110, h111, r112⟩ := bind_some r72; clear r72
        refine Cov.cutR 5 (β := Unit) (fun y => [(78, .bool u110)]) [] (fun y => G57 :: Fs) (fun y => []) [_, _, _] (fun y => []) [_, _] (fun y => True) trivial [0, 1, 2] rfl [0, 1] rfl ?_ ?_
        ·rintro _ _
         refine Cov.prune [(78, .bool u110)] ⟨rfl, trivial⟩ ?_;refine Cov.same (bl' := [_, _, _]) (sl' := [_, _]) (Fs' := G57 :: Fs) rfl rfl rfl ?_;refine Cov.q .ro (.assign rfl) rfl ?_;refine Cov.region_end ?_
         cases r112
         refine Cov.drop 3 0 [] _ rfl rfl ?_;refine Cov.drop 0 2 _ [] rfl rfl ?_
         refine Cov.retS (c := ⟨6, none⟩) (.inr ⟨_, rfl⟩) [.tmp 0] [_] rfl Try.func6 Try.results6 ⟨RV.tmp rfl, trivial⟩ (fun _ h => List.mem_cons_of_mem _ h) ⟨rfl, rfl, rfl⟩
        ·intro hb109
         refine Cov.split 73 rfl (fun c108 => ?_) (fun c108 => ?_)
         ·have r115 := ifT h111 c108
          refine Cov.g_on rfl ?_;refine Cov.q .ro (.move rfl) rfl ?_;refine Cov.g_on rfl ?_
          obtain ⟨u116, hu116, r117⟩ := bind_some r115; clear r115
          obtain ⟨c118, p119, h120⟩ := OL.get o70 hu116
          obtain rfl := h120
          refine Cov.q .ro (.idxO 0 rfl rfl rfl hu116 sl39 ty3.sz) rfl ?_;refine Cov.g_on rfl ?_;refine Cov.q .ro (.loadO 0 0 rfl hu116 p119 rfl (.inl ⟨rfl, rfl⟩) ty3 rfl) rfl ?_;refine Cov.g_on rfl ?_;refine Cov.q .ro (.eql rfl rfl) rfl ?_;refine Cov.q .ro (.pick_t rfl rfl) rfl ?_
          refine Cov.prune _ ?_ (Cov.same rfl rfl rfl (hb109 () trivial))
          exact ⟨sval r117, trivial⟩
         ·have r121 := ifF h111 c108
          refine Cov.g_off rfl rfl rfl ?_;refine Cov.g_off rfl rfl rfl ?_;refine Cov.g_off rfl rfl rfl ?_;refine Cov.g_off rfl rfl rfl ?_;refine Cov.q .ro (.pick_f rfl rfl) rfl ?_
          refine Cov.prune _ ?_ (Cov.same rfl rfl rfl (hb109 () trivial))
          exact ⟨sval r121, trivial⟩
       ·intro hb100
        refine Cov.split 68 rfl (fun c99 => ?_) (fun c99 => ?_)
        ·refine Cov.g_on rfl ?_
         refine Cov.q .ro (.move rfl) rfl ?_;refine Cov.g_on rfl ?_;refine Cov.q .ro (.len_sl rfl rfl sl39) rfl ?_;refine Cov.g_on rfl ?_;refine Cov.q .ro (.eql rfl rfl) rfl ?_;refine Cov.q .ro (.pick_t rfl rfl) rfl ?_
         refine Cov.prune _ ?_ (Cov.same rfl rfl rfl (hb100 () trivial))
         exact ⟨dand_t c99, rfl, trivial⟩
        ·refine Cov.g_off rfl rfl rfl ?_
         refine Cov.g_off rfl rfl rfl ?_;refine Cov.g_off rfl rfl rfl ?_;refine Cov.q .ro (.pick_f rfl rfl) rfl ?_
         refine Cov.prune _ ?_ (Cov.same rfl rfl rfl (hb100 () trivial))
         exact ⟨dand_f c99, rfl, trivial⟩
      ·intro hb96
       refine Cov.split 64 rfl (fun c95 => ?_) (fun c95 => ?_)
       ·refine Cov.g_on rfl ?_
        refine Cov.q .ro (.move rfl) rfl ?_;refine Cov.g_on rfl ?_;refine Cov.q .ro (.eql rfl rfl) rfl ?_;refine Cov.q .ro (.pick_t rfl rfl) rfl ?_
        refine Cov.prune _ ?_ (Cov.same rfl rfl rfl (hb96 () trivial))
        exact ⟨dand_t c95, rfl, trivial⟩
       ·refine Cov.g_off rfl rfl rfl ?_
        refine Cov.g_off rfl rfl rfl ?_;refine Cov.q .ro (.pick_f rfl rfl) rfl ?_
        refine Cov.prune _ ?_ (Cov.same rfl rfl rfl (hb96 () trivial))
        exact ⟨dand_f c95, rfl, trivial⟩
     ·intro hb92
      refine Cov.split 59 rfl (fun c91 => ?_) (fun c91 => ?_)
      ·refine Cov.g_on rfl ?_
       refine Cov.q .ro (.move rfl) rfl ?_;refine Cov.g_on rfl ?_;refine Cov.q .ro (.len_sl rfl rfl sl39) rfl ?_;refine Cov.g_on rfl ?_;refine Cov.q .ro (.eql rfl rfl) rfl ?_;refine Cov.q .ro (.pick_t rfl rfl) rfl ?_
       refine Cov.prune _ ?_ (Cov.same rfl rfl rfl (hb92 () trivial))
       exact ⟨dand_t c91, rfl, rfl, trivial⟩
      ·refine Cov.g_off rfl rfl rfl ?_
       refine Cov.g_off rfl rfl rfl ?_;refine Cov.g_off rfl rfl rfl ?_;refine Cov.q .ro (.pick_f rfl rfl) rfl ?_
       refine Cov.prune _ ?_ (Cov.same rfl rfl rfl (hb92 () trivial))
       exact ⟨dand_f c91, rfl, rfl, trivial⟩
    ·intro hb88
     refine Cov.split 55 rfl (fun c87 => ?_) (fun c87 => ?_)
     ·refine Cov.g_on rfl ?_
      refine Cov.q .ro (.move rfl) rfl ?_;refine Cov.g_on rfl ?_;refine Cov.q .ro (.eql rfl rfl) rfl ?_;refine Cov.q .ro (.pick_t rfl rfl) rfl ?_
      refine Cov.prune _ ?_ (Cov.same rfl rfl rfl (hb88 () trivial))
      exact ⟨dand_t c87, rfl, rfl, rfl, trivial⟩
     ·refine Cov.g_off rfl rfl rfl ?_
      refine Cov.g_off rfl rfl rfl ?_;refine Cov.q .ro (.pick_f rfl rfl) rfl ?_
      refine Cov.prune _ ?_ (Cov.same rfl rfl rfl (hb88 () trivial))
      exact ⟨dand_f c87, rfl, rfl, rfl, trivial⟩
   ·intro hb84
    refine Cov.split 50 rfl (fun c83 => ?_) (fun c83 => ?_)
    ·refine Cov.g_on rfl ?_
     refine Cov.q .ro (.fieldAddr 2 rfl fl57_2 ty3.sz rfl) rfl ?_;refine Cov.g_on rfl ?_;refine Cov.q .ro (.load_own 0 rfl rfl ty3 rfl) rfl ?_;refine Cov.g_on rfl ?_;refine Cov.q .ro (.eql rfl rfl) rfl ?_;refine Cov.q .ro (.pick_t rfl rfl) rfl ?_
     refine Cov.prune _ ?_ (Cov.same rfl rfl rfl (hb84 () trivial))
     exact ⟨dand_t c83, rfl, rfl, rfl, rfl, trivial⟩
    ·refine Cov.g_off rfl rfl rfl ?_
     refine Cov.g_off rfl rfl rfl ?_;refine Cov.g_off rfl rfl rfl ?_;refine Cov.q .ro (.pick_f rfl rfl) rfl ?_
     refine Cov.prune _ ?_ (Cov.same rfl rfl rfl (hb84 () trivial))
     exact ⟨dand_f c83, rfl, rfl, rfl, rfl, trivial⟩
  ·intro hb80
   refine Cov.split 44 rfl (fun c79 => ?_) (fun c79 => ?_)
   ·refine Cov.g_on rfl ?_
    refine Cov.q .ro (.fieldAddr 3 rfl fl57_3 ty55.sz rfl) rfl ?_;refine Cov.g_on rfl ?_;refine Cov.q .ro (.load_own 0 rfl rfl ty55 rfl) rfl ?_;refine Cov.g_on rfl ?_;refine Cov.q .ro (.len_sl rfl rfl sl55) rfl ?_;refine Cov.g_on rfl ?_;refine Cov.q .ro (.eql rfl rfl) rfl ?_;refine Cov.q .ro (.pick_t rfl rfl) rfl ?_
    refine Cov.prune _ ?_ (Cov.same rfl rfl rfl (hb80 () trivial))
    exact ⟨dand_t c79, rfl, rfl, rfl, rfl, rfl, trivial⟩
   ·refine Cov.g_off rfl rfl rfl ?_
    refine Cov.g_off rfl rfl rfl ?_;refine Cov.g_off rfl rfl rfl ?_;refine Cov.g_off rfl rfl rfl ?_;refine Cov.q .ro (.pick_f rfl rfl) rfl ?_
    refine Cov.prune _ ?_ (Cov.same rfl rfl rfl (hb80 () trivial))
    exact ⟨dand_f c79, rfl, rfl, rfl, rfl, rfl, trivial⟩
 ·intro hb76
  refine Cov.split 40 rfl (fun c75 => ?_) (fun c75 => ?_)
  ·refine Cov.g_on rfl ?_
   refine Cov.q .ro (.move rfl) rfl ?_;refine Cov.g_on rfl ?_;refine Cov.q .ro (.eql rfl rfl) rfl ?_;refine Cov.q .ro (.pick_t rfl rfl) rfl ?_
   refine Cov.prune _ ?_ (Cov.same rfl rfl rfl (hb76 () trivial))
   exact ⟨dand_t c75, rfl, rfl, rfl, rfl, rfl, trivial⟩
  ·refine Cov.g_off rfl rfl rfl ?_
   refine Cov.g_off rfl rfl rfl ?_;refine Cov.q .ro (.pick_f rfl rfl) rfl ?_
   refine Cov.prune _ ?_ (Cov.same rfl rfl rfl (hb76 () trivial))
   exact ⟨dand_f c75, rfl, rfl, rfl, rfl, rfl, trivial⟩
set_option maxHeartbeats 4000000 in
set_option maxRecDepth 100000 in
theorem play_New_c {Fs : List Hp} {G : Hp} {a0 : Option Addr} {k0 : Nat} {x0 : List Int} {r : ((List Int) × Int)} (hG : G ∈ Fs) (s0 : SlR (Rep.int .u8) G a0 k0 x0) (h : play_New x0 = some r) : RetS Try.prog 7 #[.slice a0 x0.length k0] Fs [] [] (fun v bo so => ∃ a0 : Option Addr, ∃ k0 : Nat, ∃ b0 : Nat, v = .pointer (some ⟨b0, 0, none⟩) ∧ bo = [(b0, .cells #[.slice a0 r.1.length k0, .int .i64 r.2] 74 (0, 0))] ∧ so = [] ∧ SlR (Rep.int .u8) G a0 k0 r.1) := by
 unfold play_New at h
 try dsimp only at h
 refine RetS.of (vs := [_]) Try.func7 rfl Try.ntmps7 [(0, _)] ⟨rfl, trivial⟩ rfl hG fun w0 S0 hS0 B0 => ?_
 refine Cov.seq ?_;refine Cov.region rfl ?_;refine Cov.q .ro (.assign rfl) rfl ?_;refine Cov.region_end ?_;refine Cov.seq ?_;refine Cov.seq ?_;refine Cov.region rfl ?_;refine Cov.q .ro (.move rfl) rfl ?_;refine Cov.q .ro (.len_sl rfl rfl sl22) rfl ?_
 refine Cov.q .ro (.gtr rfl rfl) rfl ?_;refine Cov.region_end ?_;refine Cov.cutI (β := List Int × Option Addr × Nat) (fun y => [(0, .slice y.2.1 y.1.length y.2.2)]) [] (fun y => G :: Fs) (fun y => []) [] (fun y => []) [] (fun y => SlR (Rep.int .u8) G y.2.1 y.2.2 y.1 ∧ play_New_J1 y.1 = some r) trivial [] rfl [] rfl ?_ ?_
 ·intro y hI
  obtain ⟨v11, a12, k13⟩ := y
  obtain ⟨s14, r16⟩ := hI
  try dsimp only at s14 r16
  refine Cov.prune [(0, .slice a12 v11.length k13)] ⟨rfl, trivial⟩ ?_;refine Cov.same (bl' := []) (sl' := []) (Fs' := G :: Fs) rfl rfl rfl ?_
  unfold play_New_J1 at r16
  try dsimp only at r16
  refine Cov.seq ?_;refine Cov.region rfl ?_;refine Cov.q .ro (.move rfl) rfl ?_;refine Cov.q .ro (.build [_, _] [(0, _)] ty74 pl74 rfl rfl) rfl ?_
  refine Cov.box [_, _] .ro rfl rfl rfl (fun b17 hb17 => ?_)
  refine Cov.q .ro (.assign rfl) rfl ?_;refine Cov.region_end ?_
  cases r16
  refine Cov.retS (c := ⟨7, none⟩) (.inr ⟨_, rfl⟩) [.tmp 2] [_] rfl Try.func7 Try.results7 ⟨RV.tmp rfl, trivial⟩ (fun _ h => List.mem_cons_of_mem _ h) ⟨a12, k13, _, rfl, rfl, rfl, s14⟩
 ·intro hb18
  refine Cov.cond_dec rfl (fun c19 => ?_) (fun c19 => ?_)
  ·have r20 := ifT h c19; clear h
   refine Cov.region rfl ?_;refine Cov.q .ro (.move rfl) rfl ?_
   obtain ⟨u21, hu21, r22⟩ := bind_some r20; clear r20
   obtain ⟨a23, k24, h25, s26⟩ := SlR.sub s0 hu21
   refine Cov.q .ro (.sliceR s0 rfl hu21 sl22 ty5.sz (fun _ => .no) (fun h => .yes' rfl h) h25) rfl ?_;refine Cov.q .ro (.assign rfl) rfl ?_;refine Cov.region_end ?_
   refine Cov.prune _ ?_ (Cov.same rfl rfl rfl (hb18 (u21, a23, k24) ⟨s26, r22⟩))
   exact ⟨rfl, trivial⟩
  ·have r27 := ifF h c19; clear h
   refine Cov.skip ?_
   refine Cov.prune _ ?_ (Cov.same rfl rfl rfl (hb18 (x0, a0, k0) ⟨s0, r27⟩))
   exact ⟨rfl, trivial⟩
set_option maxHeartbeats 4000000 in
set_option maxRecDepth 100000 in
theorem play_Dice_Pick_c {Fs : List Hp} {G : Hp} {p0 : Nat} {a0_0 : Option Addr} {k0_0 : Nat} {x0_0 : List Int} {x0_1 : Int} {x1 : Int} {r : (Int × ((List Int) × Int))} (hG : G ∈ Fs) (s0_0 : SlR (Rep.int .u8) G a0_0 k0_0 x0_0) (h : play_Dice_Pick (x0_0, x0_1) x1 = some r) : RetS Try.prog 20 #[.pointer (some ⟨p0, 0, none⟩), .int .i64 x1] Fs [(p0, .cells #[.slice a0_0 x0_0.length k0_0, .int .i64 x0_1] 74 (0, 0))] [] (fun v bo so => ∃ a0 : Option Addr, ∃ k0 : Nat, v = .int .i64 r.1 ∧ bo = [(p0, .cells #[.slice a0 r.2.1.length k0, .int .i64 r.2.2] 74 (0, 0))] ∧ so = [] ∧ SlR (Rep.int .u8) G a0 k0 r.2.1) := by
 unfold play_Dice_Pick at h
 try dsimp only at h
 refine RetS.of (vs := [_, _]) Try.func20 rfl Try.ntmps20 [(0, _), (1, _)] ⟨rfl, rfl, trivial⟩ rfl hG fun w0 S0 hS0 B0 => ?_
 refine Cov.seq ?_;refine Cov.region rfl ?_;refine Cov.q .ro (.assign rfl) rfl ?_;refine Cov.region_end ?_;refine Cov.seq ?_;refine Cov.seq ?_;refine Cov.drawL (.q 0 (.q 1 (.q 2 (.q 3 (.q 4 (.q 5 (.q 6 (.q 7 (.q 8 (.q 9 .nil)))))))))) [_] (by kernel_rfl) (by kernel_rfl) (pick_mem [0] rfl) ?_;refine Cov.dq (.move rfl) rfl ?_;refine Cov.dq (.nilCheck rfl rfl) rfl ?_
 refine Cov.dq (.fieldAddr 1 rfl fl74_1 ty3.sz rfl) rfl ?_;refine Cov.dq (.load_own 0 rfl rfl ty3 rfl) rfl ?_;refine Cov.dq (.move rfl) rfl ?_;refine Cov.dq (.nilCheck rfl rfl) rfl ?_;refine Cov.dq (.fieldAddr 0 rfl fl74_0 ty22.sz rfl) rfl ?_;refine Cov.dq (.load_own 0 rfl rfl ty22 rfl) rfl ?_;refine Cov.dq (.len_sl rfl rfl sl22) rfl ?_;refine Cov.dq (.geq rfl rfl) rfl ?_;refine Cov.draw_end ?_
 refine Cov.cond_dec rfl (fun c1 => ?_) (fun c1 => ?_)
 ·have r2 := ifT h c1; clear h
  refine Cov.seq ?_;refine Cov.region rfl ?_;refine Cov.q .ro (.assign rfl) rfl ?_;refine Cov.region_end ?_
  cases r2
  refine Cov.retS (c := ⟨20, none⟩) (.inr ⟨_, rfl⟩) [.tmp 4] [_] rfl Try.func20 Try.results20 ⟨RV.tmp rfl, trivial⟩ (fun _ h => List.mem_cons_of_mem _ h) ⟨a0_0, k0_0, rfl, rfl, rfl, s0_0⟩
 ·have r3 := ifF h c1; clear h
  refine Cov.skip ?_;refine Cov.seq ?_;refine Cov.region rfl ?_;refine Cov.q .ro (.move rfl) rfl ?_;refine Cov.q .ro (.nilCheck rfl rfl) rfl ?_;refine Cov.q .ro (.fieldAddr 1 rfl fl74_1 ty3.sz rfl) rfl ?_;refine Cov.q .ro (.load_own 0 rfl rfl ty3 rfl) rfl ?_;refine Cov.q .ro (.addw rfl rfl) rfl ?_;refine Cov.q .ro (.nilCheck rfl rfl) rfl ?_
  refine Cov.q .ro (.fieldAddr 1 rfl fl74_1 ty3.sz rfl) rfl ?_;refine Cov.store 0 [_, _] [_] .ro rfl rfl rfl ty3 rfl rfl rfl rfl ?_;refine Cov.region_end ?_;refine Cov.prune [(0, _), (1, _)] ⟨rfl, rfl, trivial⟩ ?_;refine Cov.seq ?_;refine Cov.drawL (.q 0 (.q 1 (.q 2 (.q 3 (.q 4 (.q 5 (.q 6 (.q 7 (.q 8 (.q 9 (.q 10 (.q 11 (.q 12 (.q 13 (.q 14 .nil))))))))))))))) [_] (by kernel_rfl) (by kernel_rfl) (pick_mem [0] rfl) ?_;refine Cov.dq (.move rfl) rfl ?_;refine Cov.dq (.nilCheck rfl rfl) rfl ?_;refine Cov.dq (.fieldAddr 0 rfl fl74_0 ty22.sz rfl) rfl ?_
  refine Cov.dq (.load_own 0 rfl rfl ty22 rfl) rfl ?_;refine Cov.dq (.move rfl) rfl ?_;refine Cov.dq (.nilCheck rfl rfl) rfl ?_;refine Cov.dq (.fieldAddr 1 rfl fl74_1 ty3.sz rfl) rfl ?_;refine Cov.dq (.load_own 0 rfl rfl ty3 rfl) rfl ?_;refine Cov.dq (.subw rfl rfl) rfl ?_
  obtain ⟨u4, hu4, r5⟩ := bind_some r3; clear r3
  obtain ⟨c6, p7, h8⟩ := SlR.get s0_0 hu4
  obtain rfl := h8
  refine Cov.dq (.idxR s0_0 rfl rfl hu4 sl22 ty5.sz) rfl ?_;refine Cov.dq (.load_rp p7 List.mem_cons_self rfl ty5 rfl) rfl ?_;refine Cov.dq (.convw Try.underlying5 Try.underlying3 rfl) rfl ?_;refine Cov.dq (.move rfl) rfl ?_
  obtain ⟨u9, hu9, r10⟩ := bind_some r5; clear r5
  refine Cov.dq (.remt rfl rfl (nz_some hu9)) rfl ?_;refine Cov.dq (.assign rfl) rfl ?_;refine Cov.draw_end ?_;refine Cov.prune [(4, _)] ⟨rfl, trivial⟩ ?_
  cases r10
  refine Cov.retS (c := ⟨20, none⟩) (.inr ⟨_, rfl⟩) [.tmp 4] [_] rfl Try.func20 Try.results20 ⟨RV.tmp rfl, trivial⟩ (fun _ h => List.mem_cons_of_mem _ h) ⟨a0_0, k0_0, rfl, rfl, rfl, s0_0⟩
set_option maxHeartbeats 4000000 in
set_option maxRecDepth 100000 in
theorem law35_directory_c {Fs : List Hp} {G : Hp} {p0 : Nat} {a0_0 : Option Addr} {k0_0 : Nat} {x0_0 : List Int} {x0_1 : Int} {r : (((Int × (List (Int × Int))) × Int × (List (List (ByteArray × Int)))) × (List (ByteArray × Int)) × ((List Int) × Int))} (hG : G ∈ Fs) (s0_0 : SlR (Rep.int .u8) G a0_0 k0_0 x0_0) (h : law35_directory (x0_0, x0_1) = some r) : RetW Try.prog 8 #[.pointer (some ⟨p0, 0, none⟩)] Fs [(p0, .cells #[.slice a0_0 x0_0.length k0_0, .int .i64 x0_1] 74 (0, 0))] [] (fun v bo so G => ∃ a0 : Option Addr, ∃ k0 : Nat, ∃ a1 : Option Addr, ∃ k1 : Nat, ∃ a2 : Option Addr, ∃ k2 : Nat, ∃ a3 : Option Addr, ∃ k3 : Nat, v = .tuple #[.agg #[.int .i64 r.1.1.1, .slice a0 r.1.1.2.length k0, .int .i64 r.1.2.1, .slice a1 r.1.2.2.length k1], .slice a2 r.2.1.length k2] ∧ bo = [(p0, .cells #[.slice a3 r.2.2.1.length k3, .int .i64 r.2.2.2] 74 (0, 0))] ∧ so = [] ∧ SlR (Rep.pair (Rep.int .i64) (Rep.int .i64)) G a0 k0 r.1.1.2 ∧ SlR (Rep.sl (Rep.pair Rep.str (Rep.int .i64))) G a1 k1 r.1.2.2 ∧ SlR (Rep.pair Rep.str (Rep.int .i64)) G a2 k2 r.2.1 ∧ SlR (Rep.int .u8) G a3 k3 r.2.2.1) := by
 unfold law35_directory at h
 try dsimp only at h
 refine RetW.of (vs := [_]) Try.func8 rfl Try.ntmps8 [(0, _)] ⟨rfl, trivial⟩ rfl hG fun w0 S0 hS0 B0 => ?_
 refine Cov.seq ?_;refine Cov.region rfl ?_
 refine Cov.alloc .ro ty31 rfl (fun b1 hb1 => ?_)
 refine Cov.q .ro (.assign rfl) rfl ?_;refine Cov.region_end ?_;refine Cov.seq ?_;refine Cov.region rfl ?_
 refine Cov.lit [_, _, _, _, _, _] [(0, _), (1, _), (2, _), (3, _), (4, _), (5, _)] .ro sl35 ty9 rfl rfl rfl rfl rfl rfl (fun b2 hb2 => ?_)
 have o3 : OL Rep.str G [.string ⟨#[97, 110, 116]⟩, .string ⟨#[98, 101, 101]⟩, .string ⟨#[99, 97, 116]⟩, .string ⟨#[100, 111, 103]⟩, .string ⟨#[101, 101, 108]⟩, .string ⟨#[102, 111, 120]⟩] ([⟨#[97, 110, 116]⟩, ⟨#[98, 101, 101]⟩, ⟨#[99, 97, 116]⟩, ⟨#[100, 111, 103]⟩, ⟨#[101, 101, 108]⟩, ⟨#[102, 111, 120]⟩] : List ByteArray) := ((OL.cons rfl (Rep.strI ⟨#[97, 110, 116]⟩) (OL.cons rfl (Rep.strI ⟨#[98, 101, 101]⟩) (OL.cons rfl (Rep.strI ⟨#[99, 97, 116]⟩) (OL.cons rfl (Rep.strI ⟨#[100, 111, 103]⟩) (OL.cons rfl (Rep.strI ⟨#[101, 101, 108]⟩) (OL.cons rfl (Rep.strI ⟨#[102, 111, 120]⟩) (OL.nil (Rp' := Rep.str)))))))) :)
 refine Cov.reval 11 (n' := ([⟨#[97, 110, 116]⟩, ⟨#[98, 101, 101]⟩, ⟨#[99, 97, 116]⟩, ⟨#[100, 111, 103]⟩, ⟨#[101, 101, 108]⟩, ⟨#[102, 111, 120]⟩] : List ByteArray).length) rfl rfl ?_;refine Cov.q .ro (.assign rfl) rfl ?_;refine Cov.region_end ?_;refine Cov.seq ?_;refine Cov.region rfl ?_;refine Cov.q .ro (.assign rfl) rfl ?_;refine Cov.region_end ?_;refine Cov.seq ?_;refine Cov.seq ?_
 refine Cov.region rfl ?_;refine Cov.q .ro (.move rfl) rfl ?_;refine Cov.q .ro (.len_sl rfl rfl sl35) rfl ?_;refine Cov.q .ro (.move rfl) rfl ?_;refine Cov.region_end ?_;refine Cov.cutB (β := (List (ByteArray × Int)) × Option Addr × Nat × List Value × Int × Int × List Int × Option Addr × Nat × Int) (fun y => [(5, .slice y.2.1 y.1.length y.2.2.1)]) [(0, _), (2, _)] (fun y => G :: Fs) (fun y => [(b1, .cells #[.int .i64 y.2.2.2.2.1, .slice none 0 0, .int .i64 y.2.2.2.2.2.1, .slice none 0 0] 31 (0, 0)), (p0, .cells #[.slice y.2.2.2.2.2.2.2.1 y.2.2.2.2.2.2.1.length y.2.2.2.2.2.2.2.2.1, .int .i64 y.2.2.2.2.2.2.2.2.2] 74 (0, 0))]) [] (fun y => [.s (.slice y.2.1 y.1.length y.2.2.1) 63 2 y.1.length y.2.2.2.1]) [_] (fun y => OL (Rep.pair Rep.str (Rep.int .i64)) G y.2.2.2.1 y.1 ∧ SlR (Rep.int .u8) G y.2.2.2.2.2.2.2.1 y.2.2.2.2.2.2.2.2.1 y.2.2.2.2.2.2.1 ∧ law35_directory_J2 y.1 y.2.2.2.2.1 y.2.2.2.2.2.1 y.2.2.2.2.2.2.1 y.2.2.2.2.2.2.2.2.2 = some r) ⟨rfl, rfl, trivial⟩ [] rfl [0] rfl ?_ ?_
 ·intro y hI
  obtain ⟨v153, a154, k155, cs156, v159, v160, v161, a162, k163, v165⟩ := y
  obtain ⟨o157, s164, r167⟩ := hI
  try dsimp only at o157 s164 r167
  refine Cov.prune [(5, .slice a154 v153.length k155), (0, _), (2, _)] ⟨rfl, rfl, rfl, trivial⟩ ?_;refine Cov.same (bl' := [(b1, .cells #[.int .i64 v159, .slice none 0 0, .int .i64 v160, .slice none 0 0] 31 (0, 0)), (p0, .cells #[.slice a162 v161.length k163, .int .i64 v165] 74 (0, 0))]) (sl' := [.s (.slice a154 v153.length k155) 63 2 v153.length cs156, _]) (Fs' := G :: Fs) rfl rfl rfl ?_
  unfold law35_directory_J2 at r167
  try dsimp only at r167
  refine Cov.seq ?_;refine Cov.region rfl ?_;refine Cov.q .ro (.move rfl) rfl ?_
  obtain ⟨u169, hu169, r170⟩ := bind_some r167; clear r167
  refine Cov.pull 1 rfl [_, _] rfl ?_
  refine Cov.callS (b1 := [_]) (b2 := [_]) (s1 := []) [_, _] [] .ro rfl rfl Try.call20 rfl rfl (play_Dice_Pick_c (G := G) List.mem_cons_self s164 hu169) rfl (fun v172 bo so h171 => ?_)
  obtain ⟨a173, k174, rfl, rfl, rfl, s175⟩ := h171
  refine Cov.same (bl' := [_, _]) (sl' := [_, _]) rfl rfl rfl ?_;refine Cov.q .ro (.addw rfl rfl) rfl ?_;refine Cov.q .ro (.move rfl) rfl ?_
  obtain ⟨u176, hu176, r177⟩ := bind_some r170; clear r170
  refine Cov.callS (b1 := [_]) (b2 := [_]) (s1 := []) [_, _] [] .ro rfl rfl Try.call20 rfl rfl (play_Dice_Pick_c (G := G) List.mem_cons_self s175 hu176) rfl (fun v179 bo so h178 => ?_)
  obtain ⟨a180, k181, rfl, rfl, rfl, s182⟩ := h178
  refine Cov.same (bl' := [_, _]) (sl' := [_, _]) rfl rfl rfl ?_;refine Cov.q .ro (.addw rfl rfl) rfl ?_;refine Cov.q .ro (.move rfl) rfl ?_
  obtain ⟨u183, hu183, r184⟩ := bind_some r177; clear r177
  refine Cov.callS (b1 := [_]) (b2 := [_]) (s1 := []) [_, _] [] .ro rfl rfl Try.call20 rfl rfl (play_Dice_Pick_c (G := G) List.mem_cons_self s182 hu183) rfl (fun v186 bo so h185 => ?_)
  obtain ⟨a187, k188, rfl, rfl, rfl, s189⟩ := h185
  refine Cov.same (bl' := [_, _]) (sl' := [_, _]) rfl rfl rfl ?_;refine Cov.q .ro (.build [_, _] [(0, _), (1, _)] ty70 pl70 rfl rfl) rfl ?_;refine Cov.q .ro (.move rfl) rfl ?_
  obtain ⟨u190, hu190, r191⟩ := bind_some r184; clear r184
  refine Cov.callS (b1 := [_]) (b2 := [_]) (s1 := []) [_, _] [] .ro rfl rfl Try.call20 rfl rfl (play_Dice_Pick_c (G := G) List.mem_cons_self s189 hu190) rfl (fun v193 bo so h192 => ?_)
  obtain ⟨a194, k195, rfl, rfl, rfl, s196⟩ := h192
  refine Cov.same (bl' := [_, _]) (sl' := [_, _]) rfl rfl rfl ?_;refine Cov.q .ro (.addw rfl rfl) rfl ?_;refine Cov.q .ro (.move rfl) rfl ?_
  obtain ⟨u197, hu197, r198⟩ := bind_some r191; clear r191
  refine Cov.callS (b1 := [_]) (b2 := [_]) (s1 := []) [_, _] [] .ro rfl rfl Try.call20 rfl rfl (play_Dice_Pick_c (G := G) List.mem_cons_self s196 hu197) rfl (fun v200 bo so h199 => ?_)
  obtain ⟨a201, k202, rfl, rfl, rfl, s203⟩ := h199
  refine Cov.same (bl' := [_, _]) (sl' := [_, _]) rfl rfl rfl ?_;refine Cov.q .ro (.build [_, _] [(0, _), (1, _)] ty70 pl70 rfl rfl) rfl ?_;refine Cov.q .ro (.move rfl) rfl ?_
  obtain ⟨u204, hu204, r205⟩ := bind_some r198; clear r198
  refine Cov.callS (b1 := [_]) (b2 := [_]) (s1 := []) [_, _] [] .ro rfl rfl Try.call20 rfl rfl (play_Dice_Pick_c (G := G) List.mem_cons_self s203 hu204) rfl (fun v207 bo so h206 => ?_)
  obtain ⟨a208, k209, rfl, rfl, rfl, s210⟩ := h206
  refine Cov.same (bl' := [_, _]) (sl' := [_, _]) rfl rfl rfl ?_;refine Cov.q .ro (.build [_, _] [(0, _), (1, _)] ty70 pl70 rfl rfl) rfl ?_
  refine Cov.lit [_, _, _, _, _, _] [(0, _), (1, _), (2, _)] .ro sl26 ty70 rfl rfl rfl rfl rfl rfl (fun b211 hb211 => ?_)
  have o212 : OL (Rep.pair (Rep.int .i64) (Rep.int .i64)) G [.int .i64 (w64 (1 + u176.1)), .int .i64 u183.1, .int .i64 (w64 (11 + u190.1)), .int .i64 u197.1, .int .i64 31, .int .i64 u204.1] ([((w64 (1 + u176.1)), u183.1), ((w64 (11 + u190.1)), u197.1), (31, u204.1)] : List (Int × Int)) := ((OL.cons rfl (Rep.pairI (Rep.intI .i64 (w64 (1 + u176.1))) (Rep.intI .i64 u183.1)) (OL.cons rfl (Rep.pairI (Rep.intI .i64 (w64 (11 + u190.1))) (Rep.intI .i64 u197.1)) (OL.cons rfl (Rep.pairI (Rep.intI .i64 31) (Rep.intI .i64 u204.1)) (OL.nil (Rp' := (Rep.pair (Rep.int .i64) (Rep.int .i64))))))) :)
  refine Cov.reval 56 (n' := ([((w64 (1 + u176.1)), u183.1), ((w64 (11 + u190.1)), u197.1), (31, u204.1)] : List (Int × Int)).length) rfl rfl ?_;refine Cov.q .ro (.build [_, _] [(0, _), (1, _)] ty28 pl28 rfl rfl) rfl ?_
  refine Cov.alloc .ro ty28 rfl (fun b214 hb214 => ?_)
  refine Cov.store 0 [_, _] [_, _, _] .ro rfl rfl rfl ty28 rfl rfl rfl rfl ?_;refine Cov.region_end ?_;refine Cov.prune [(5, _), (2, _), (8, _)] ⟨rfl, rfl, rfl, trivial⟩ ?_;refine Cov.seq ?_;refine Cov.region rfl ?_;refine Cov.q .ro (.load_own_a 0 [_, _] rfl rfl ty28 rfl) rfl ?_;refine Cov.q .ro (.move rfl) rfl ?_
  refine Cov.freezeR 0 rfl rfl o212 [_, _] rfl B0 (fun G215 e216 B217 s218 => ?_)
  refine Cov.freezeR 0 rfl rfl (OL.mono e216 o157) [_] rfl B217 (fun G220 e221 B222 s223 => ?_)
  obtain ⟨u225, hu225, r226⟩ := bind_some r205; clear r205
  refine Cov.callW (b1 := []) (b2 := [_, _, _]) (s1 := []) [_, _, _] [] .ro rfl rfl Try.call19 rfl rfl (ref20_Build_c (G := G220) List.mem_cons_self (SlR.mono e221 s218) s223 hu225) rfl B222 (fun v228 bo so G229 e230 B231 h227 => ?_)
  obtain ⟨a233, k234, a236, k237, rfl, rfl, rfl, s235, s238⟩ := h227
  refine Cov.same (bl' := [_, _, _]) (sl' := [_]) rfl rfl rfl ?_;refine Cov.q .ro (.move rfl) rfl ?_;refine Cov.q .ro (.extract rfl rfl) rfl ?_;refine Cov.q .ro (.extract rfl rfl) rfl ?_
  refine Cov.alloc .ro ty31 rfl (fun b239 hb239 => ?_)
  refine Cov.store 0 [_, _, _, _] [_, _, _, _] .ro rfl rfl rfl ty31 rfl rfl rfl rfl ?_;refine Cov.q .ro (.assign rfl) rfl ?_;refine Cov.region_end ?_;refine Cov.seq ?_;refine Cov.seq ?_;refine Cov.region rfl ?_;refine Cov.q .ro (.move rfl) rfl ?_;refine Cov.q .ro (.neq rfl rfl) rfl ?_;refine Cov.region_end ?_
  refine Cov.cutI (β := Hp × (List (ByteArray × Int)) × Option Addr × Nat × Int × (List (Int × Int)) × Option Addr × Nat × Int × (List (List (ByteArray × Int))) × Option Addr × Nat) (fun y => [(5, .slice y.2.2.1 y.2.1.length y.2.2.2.1)]) [(2, _), (9, _)] (fun y => y.1 :: Fs) (fun y => [(b239, .cells #[.int .i64 y.2.2.2.2.1, .slice y.2.2.2.2.2.2.1 y.2.2.2.2.2.1.length y.2.2.2.2.2.2.2.1, .int .i64 y.2.2.2.2.2.2.2.2.1, .slice y.2.2.2.2.2.2.2.2.2.2.1 y.2.2.2.2.2.2.2.2.2.1.length y.2.2.2.2.2.2.2.2.2.2.2] 31 (0, 0))]) [_, _, _] (fun y => []) [_] (fun y => HpLe G229 y.1 ∧ Bd w0 S0 Fs y.1 ∧ SlR (Rep.pair Rep.str (Rep.int .i64)) y.1 y.2.2.1 y.2.2.2.1 y.2.1 ∧ SlR (Rep.pair (Rep.int .i64) (Rep.int .i64)) y.1 y.2.2.2.2.2.2.1 y.2.2.2.2.2.2.2.1 y.2.2.2.2.2.1 ∧ SlR (Rep.sl (Rep.pair Rep.str (Rep.int .i64))) y.1 y.2.2.2.2.2.2.2.2.2.2.1 y.2.2.2.2.2.2.2.2.2.2.2 y.2.2.2.2.2.2.2.2.2.1 ∧ (law35_directory_J1 u204.2.1 u204.2.2) y.2.1 y.2.2.2.2.1 y.2.2.2.2.2.1 y.2.2.2.2.2.2.2.2.1 y.2.2.2.2.2.2.2.2.2.1 = some r) ⟨rfl, rfl, trivial⟩ [1, 2, 3] rfl [0] rfl ?_ ?_
  ·intro y hI
   obtain ⟨G259, v263, a264, k265, v267, v268, a269, k270, v272, v273, a274, k275⟩ := y
   obtain ⟨e260, B261, s266, s271, s276, r278⟩ := hI
   try dsimp only at e260 B261 s266 s271 s276 r278
   refine Cov.prune [(5, .slice a264 v263.length k265), (2, _), (9, _)] ⟨rfl, rfl, rfl, trivial⟩ ?_;refine Cov.same (bl' := [(b239, .cells #[.int .i64 v267, .slice a269 v268.length k270, .int .i64 v272, .slice a274 v273.length k275] 31 (0, 0)), _, _, _]) (sl' := [_]) (Fs' := G259 :: Fs) rfl rfl rfl ?_
   unfold law35_directory_J1 at r278
   try dsimp only at r278
   refine Cov.seq ?_;refine Cov.region rfl ?_;refine Cov.q .ro (.load_own_a 0 [_, _, _, _] rfl rfl ty31 rfl) rfl ?_;refine Cov.q .ro (.move rfl) rfl ?_;refine Cov.store 3 [_, _, _, _] [_, _, _, _] .ro rfl rfl rfl ty31 rfl rfl rfl rfl ?_;refine Cov.q .ro (.assign rfl) rfl ?_;refine Cov.region_end ?_
   cases r278
   refine Cov.drop 0 1 _ [] rfl rfl ?_;refine Cov.pull 2 rfl [_, _, _, _] rfl ?_;refine Cov.pull 3 rfl [_, _, _, _] rfl ?_;refine Cov.pull 3 rfl [_, _, _, _] rfl ?_;refine Cov.pull 3 rfl [_, _, _, _] rfl ?_
   refine Cov.retWD 3 (c := ⟨8, none⟩) (.inr ⟨_, rfl⟩) [.cell 2 31, .tmp 3] [_, _] rfl Try.func8 Try.results8 ⟨RV.cell_a 2 [_, _, _, _] rfl rfl ty31 rfl, RV.tmp rfl, trivial⟩ (fun _ h => List.mem_cons_of_mem _ h) List.mem_cons_self B261 (by subst hS0; simp [blks]) (fun G' hg => ⟨a269, k270, a274, k275, a264, k265, a208, k209, rfl, rfl, rfl, (SlR.mono hg s271), (SlR.mono hg s276), (SlR.mono hg s266), (SlR.mono hg (SlR.mono (HpLe.trans (HpLe.trans (HpLe.trans e216 e221) e230) e260) s210))⟩)
  ·intro hb286
   refine Cov.cond_dec rfl (fun c287 => ?_) (fun c287 => ?_)
   ·have r288 := ifT r226 c287; clear r226
    refine Cov.seq ?_;refine Cov.region rfl ?_;refine Cov.q .ro (.load_own_a 1 [_, _] rfl rfl ty28 rfl) rfl ?_
    obtain ⟨u289, hu289, r290⟩ := bind_some r288; clear r288
    have hl291 := ref20_Build_c (G := G229) (Fs := G229 :: Fs) List.mem_cons_self (SlR.mono (HpLe.trans e221 e230) s218) (SlR.nil (Rp' := (Rep.pair Rep.str (Rep.int .i64)))) hu289
    refine Cov.callW (b1 := []) (b2 := [_, _, _, _]) (s1 := []) [_, _, _] [] .ro rfl rfl Try.call19 rfl rfl hl291 rfl B231 (fun v293 bo so G294 e295 B296 h292 => ?_)
    obtain ⟨a298, k299, a301, k302, rfl, rfl, rfl, s300, s303⟩ := h292
    refine Cov.same (bl' := [_, _, _, _]) (sl' := [_]) rfl rfl rfl ?_;refine Cov.q .ro (.move rfl) rfl ?_;refine Cov.q .ro (.extract rfl rfl) rfl ?_;refine Cov.q .ro (.extract rfl rfl) rfl ?_;refine Cov.store 0 [_, _, _, _] [_, _, _, _] .ro rfl rfl rfl ty31 rfl rfl rfl rfl ?_;refine Cov.region_end ?_;refine Cov.prune [(2, _), (9, _)] ⟨rfl, rfl, trivial⟩ ?_;refine Cov.region rfl ?_;refine Cov.q .ro (.assign rfl) rfl ?_
    refine Cov.region_end ?_
    refine Cov.prune _ ?_ (Cov.same rfl rfl rfl (hb286 (G294, ([] : List (ByteArray × Int)), none, 0, u289.1.1.1, u289.1.1.2, a298, k299, u289.1.2.1, u289.1.2.2, a301, k302) ⟨e295, B296, SlR.nil, s300, s303, r290⟩))
    exact ⟨rfl, rfl, rfl, trivial⟩
   ·have r304 := ifF r226 c287; clear r226
    refine Cov.skip ?_
    refine Cov.prune _ ?_ (Cov.same rfl rfl rfl (hb286 (G229, v153, a154, k155, u225.1.1.1, u225.1.1.2, a233, k234, u225.1.2.1, u225.1.2.2, a236, k237) ⟨(HpLe.refl _), B231, (SlR.mono e230 s223), s235, s238, r304⟩))
    exact ⟨rfl, rfl, rfl, trivial⟩
 ·intro hb305
  refine Cov.block ?_;refine Cov.own_nil 63 2 ?_;refine Cov.pull 1 rfl [_, _] rfl ?_
  refine Cov.loop2 (α := Nat × List ByteArray × (List (ByteArray × Int)) × Option Addr × Nat × List Value × List Int × Option Addr × Nat × Int) (fun y => [(5, .slice y.2.2.2.1 y.2.2.1.length y.2.2.2.2.1), (14, .int .i64 (y.1 : Int))]) [(0, _), (2, _), (12, _), (13, _)] (fun y => []) (fun y => [(p0, .cells #[.slice y.2.2.2.2.2.2.2.1 y.2.2.2.2.2.2.1.length y.2.2.2.2.2.2.2.2.1, .int .i64 y.2.2.2.2.2.2.2.2.2] 74 (0, 0))]) [_] (fun y => [.s (.slice y.2.2.2.1 y.2.2.1.length y.2.2.2.2.1) 63 2 y.2.2.1.length y.2.2.2.2.2.1]) [_] (fun y => OL (Rep.pair Rep.str (Rep.int .i64)) G y.2.2.2.2.2.1 y.2.2.1 ∧ SlR (Rep.int .u8) G y.2.2.2.2.2.2.2.1 y.2.2.2.2.2.2.2.2.1 y.2.2.2.2.2.2.1 ∧ List.drop y.1 ([⟨#[97, 110, 116]⟩, ⟨#[98, 101, 101]⟩, ⟨#[99, 97, 116]⟩, ⟨#[100, 111, 103]⟩, ⟨#[101, 101, 108]⟩, ⟨#[102, 111, 120]⟩] : List ByteArray) = y.2.1 ∧ law35_directory_L3 law35_directory_J2 y.2.1 y.1 y.2.2.1 y.2.2.2.2.2.2.1 y.2.2.2.2.2.2.2.2.2 = some r) (fun y => y.2.1.length) (0, ([⟨#[97, 110, 116]⟩, ⟨#[98, 101, 101]⟩, ⟨#[99, 97, 116]⟩, ⟨#[100, 111, 103]⟩, ⟨#[101, 101, 108]⟩, ⟨#[102, 111, 120]⟩] : List ByteArray), ([] : List (ByteArray × Int)), none, 0, [], x0_0, a0_0, k0_0, x0_1) ⟨(OL.nil (Rp' := (Rep.pair Rep.str (Rep.int .i64)))), s0_0, rfl, h⟩ ⟨rfl, rfl, rfl, rfl, rfl, rfl, trivial⟩ rfl rfl rfl (fun y hI hb415 => ?_)
  obtain ⟨i400, w401, v403, a404, k405, cs406, v409, a410, k411, v413⟩ := y
  obtain ⟨o407, s412, g402, r414⟩ := hI
  try dsimp only at o407 s412 g402 r414
  refine Cov.prune [(5, .slice a404 v403.length k405), (14, .int .i64 (i400 : Int)), (0, _), (2, _), (12, _), (13, _)] ⟨rfl, rfl, rfl, rfl, rfl, rfl, trivial⟩ ?_;refine Cov.same (bl' := [(p0, .cells #[.slice a410 v409.length k411, .int .i64 v413] 74 (0, 0)), _]) (sl' := [.s (.slice a404 v403.length k405) 63 2 v403.length cs406, _]) (Fs' := G :: Fs) rfl rfl rfl ?_
  cases w401 with
  | nil =>
   rw [law35_directory_L3] at r414; try dsimp only at r414
   refine Cov.seq ?_;refine Cov.region rfl ?_;refine Cov.q .ro (.lss rfl rfl) rfl ?_;refine Cov.region_end ?_;refine Cov.seq ?_
   refine Cov.cond_dec rfl (fun c => absurd c (drop_nil g402)) (fun _ => ?_)
   refine Cov.exit rfl ?_;refine Cov.pull 1 rfl [_, _] rfl ?_
   refine Cov.prune _ ?_ (Cov.same rfl rfl rfl (hb305 (v403, a404, k405, cs406, 0, 0, v409, a410, k411, v413) ⟨o407, s412, r414⟩))
   exact ⟨rfl, rfl, rfl, trivial⟩
  | cons x419 xs420 =>
   have r418 : law35_directory_B3 law35_directory_J2 (law35_directory_L3 law35_directory_J2 xs420 (i400 + 1)) x419 i400 v403 v409 v413 = some r := r414; clear r414; unfold law35_directory_B3 at r418; try dsimp only at r418
   refine Cov.seq ?_;refine Cov.region rfl ?_;refine Cov.q .ro (.lss rfl rfl) rfl ?_;refine Cov.region_end ?_;refine Cov.seq ?_
   refine Cov.cond_dec rfl (fun _ => ?_) (fun c => absurd (drop_lt g402) c)
   refine Cov.skip ?_;refine Cov.seq ?_;refine Cov.block ?_;refine Cov.seq ?_;refine Cov.region rfl ?_;refine Cov.q .ro (.move rfl) rfl ?_
   obtain ⟨c421, p422, h423⟩ := OL.get o3 (drop_idx g402)
   obtain rfl := h423
   refine Cov.q .ro (.idxO 1 rfl rfl rfl (drop_idx g402) sl35 ty9.sz) rfl ?_;refine Cov.q .ro (.loadO 1 0 rfl (drop_idx g402) p422 rfl (.inl ⟨rfl, rfl⟩) ty9 rfl) rfl ?_;refine Cov.q .ro (.assign rfl) rfl ?_;refine Cov.q .ro (.assign rfl) rfl ?_;refine Cov.region_end ?_;refine Cov.seq ?_;refine Cov.region rfl ?_;refine Cov.q .ro (.move rfl) rfl ?_
   obtain ⟨u424, hu424, r425⟩ := bind_some r418; clear r418
   refine Cov.callS (b1 := [_]) (b2 := [_]) (s1 := []) [_, _] [] .ro rfl rfl Try.call20 rfl rfl (play_Dice_Pick_c (G := G) List.mem_cons_self s412 hu424) rfl (fun v427 bo so h426 => ?_)
   obtain ⟨a428, k429, rfl, rfl, rfl, s430⟩ := h426
   refine Cov.same (bl' := [_, _]) (sl' := [_, _]) rfl rfl rfl ?_;refine Cov.q .ro (.eql rfl rfl) rfl ?_;refine Cov.q .ro (.move rfl) rfl ?_;refine Cov.cutR 4 (β := Unit) (fun y => [(26, .bool (decide ((u424.1 = 0) ∧ ((v403.length : Int) < 3))))]) [(5, _), (14, _), (0, _), (2, _), (12, _), (13, _), (6, _), (7, _)] (fun y => G :: Fs) (fun y => []) [_, _] (fun y => []) [_, _] (fun y => True) ⟨rfl, rfl, rfl, rfl, rfl, rfl, rfl, rfl, trivial⟩ [0, 1] rfl [0, 1] rfl ?_ ?_
   ·rintro _ _
    refine Cov.prune [(26, .bool (decide ((u424.1 = 0) ∧ ((v403.length : Int) < 3)))), (5, _), (14, _), (0, _), (2, _), (12, _), (13, _), (6, _), (7, _)] ⟨rfl, rfl, rfl, rfl, rfl, rfl, rfl, rfl, rfl, trivial⟩ ?_;refine Cov.same (bl' := [_, _]) (sl' := [_, _]) (Fs' := G :: Fs) rfl rfl rfl ?_;refine Cov.region_end ?_
    refine Cov.cond_dec rfl (fun c435 => ?_) (fun c435 => ?_)
    ·have r436 := ifT r425 c435; clear r425
     refine Cov.region rfl ?_;refine Cov.q .ro (.move rfl) rfl ?_;refine Cov.q .ro (.move rfl) rfl ?_;refine Cov.q .ro (.move rfl) rfl ?_;refine Cov.q .ro (.mulw rfl rfl) rfl ?_;refine Cov.q .ro (.move rfl) rfl ?_
     obtain ⟨u437, hu437, r438⟩ := bind_some r436; clear r436
     refine Cov.callS (b1 := [_]) (b2 := [_]) (s1 := []) [_, _] [] .ro rfl rfl Try.call20 rfl rfl (play_Dice_Pick_c (G := G) List.mem_cons_self s430 hu437) rfl (fun v440 bo so h439 => ?_)
     obtain ⟨a441, k442, rfl, rfl, rfl, s443⟩ := h439
     refine Cov.same (bl' := [_, _]) (sl' := [_, _]) rfl rfl rfl ?_;refine Cov.q .ro (.addw rfl rfl) rfl ?_;refine Cov.q .ro (.build [_, _] [(0, _), (1, _)] ty63 pl63 rfl rfl) rfl ?_
     refine Cov.lit [_, _] [(0, _)] .ro sl32 ty63 rfl rfl rfl rfl rfl rfl (fun b444 hb444 => ?_)
     have o445 : OL (Rep.pair Rep.str (Rep.int .i64)) G [.string x419, .int .i64 (w64 ((w64 ((i400 : Int) * 100)) + u437.1))] ([(x419, (w64 ((w64 ((i400 : Int) * 100)) + u437.1)))] : List (ByteArray × Int)) := ((OL.cons rfl (Rep.pairI (Rep.strI x419) (Rep.intI .i64 (w64 ((w64 ((i400 : Int) * 100)) + u437.1)))) (OL.nil (Rp' := (Rep.pair Rep.str (Rep.int .i64))))) :)
     refine Cov.reval 35 (n' := ([(x419, (w64 ((w64 ((i400 : Int) * 100)) + u437.1)))] : List (ByteArray × Int)).length) rfl rfl ?_
     obtain ⟨u451, hu451, r452⟩ := bind_some r438; clear r438
     refine Cov.appO (Q := (Rep.pair Rep.str (Rep.int .i64))) 0 .ro sl32 ty63 rfl rfl rfl rfl rfl rfl o407 o445 rfl rfl rfl B0 hu451 rfl (fun a447 k448 cs449 o450 => ?_)
     refine Cov.q .ro (.assign rfl) rfl ?_;refine Cov.region_end ?_;refine Cov.prune [(5, _), (14, _), (0, _), (2, _), (12, _), (13, _)] ⟨rfl, rfl, rfl, rfl, rfl, rfl, trivial⟩ ?_;refine Cov.inBlock ?_;refine Cov.region rfl ?_;refine Cov.q .ro (.addw rfl rfl) rfl ?_;refine Cov.q .ro (.move rfl) rfl ?_;refine Cov.region_end ?_
     refine Cov.prune _ ?_ (Cov.same rfl rfl rfl (hb415 ((i400 + 1), xs420, u451, a447, k448, cs449, u437.2.1, a441, k442, u437.2.2) ⟨o450, s443, (drop_succ g402), r452⟩ (Nat.lt_succ_self _)))
     exact ⟨rfl, (congrArg (fun z => some (Value.int .i64 z)) (idx_wrap (OL.len' o3) g402)), rfl, rfl, rfl, rfl, trivial⟩
    ·have r454 := ifF r425 c435; clear r425
     refine Cov.skip ?_;refine Cov.inBlock ?_;refine Cov.region rfl ?_;refine Cov.q .ro (.addw rfl rfl) rfl ?_;refine Cov.q .ro (.move rfl) rfl ?_;refine Cov.region_end ?_
     refine Cov.prune _ ?_ (Cov.same rfl rfl rfl (hb415 ((i400 + 1), xs420, v403, a404, k405, cs406, u424.2.1, a428, k429, u424.2.2) ⟨o407, s430, (drop_succ g402), r454⟩ (Nat.lt_succ_self _)))
     exact ⟨rfl, (congrArg (fun z => some (Value.int .i64 z)) (idx_wrap (OL.len' o3) g402)), rfl, rfl, rfl, rfl, trivial⟩
   ·intro hb432
    refine Cov.split 22 rfl (fun c431 => ?_) (fun c431 => ?_)
    ·refine Cov.g_on rfl ?_
     refine Cov.q .ro (.move rfl) rfl ?_;refine Cov.g_on rfl ?_;refine Cov.q .ro (.len_sl rfl rfl sl32) rfl ?_;refine Cov.g_on rfl ?_;refine Cov.q .ro (.lss rfl rfl) rfl ?_;refine Cov.q .ro (.pick_t rfl rfl) rfl ?_
     refine Cov.prune _ ?_ (Cov.same rfl rfl rfl (hb432 () trivial))
     exact ⟨dand_t c431, rfl, rfl, rfl, rfl, rfl, rfl, rfl, rfl, trivial⟩
    ·refine Cov.g_off rfl rfl rfl ?_
     refine Cov.g_off rfl rfl rfl ?_;refine Cov.g_off rfl rfl rfl ?_;refine Cov.q .ro (.pick_f rfl rfl) rfl ?_
     refine Cov.prune _ ?_ (Cov.same rfl rfl rfl (hb432 () trivial))
     exact ⟨dand_f c431, rfl, rfl, rfl, rfl, rfl, rfl, rfl, rfl, trivial⟩
end Go.Proofs.Ytmfppphlhgneeaa
end

section
namespace Go.Proofs.Ytmfppphlhgneeaa
open Go.RowKit
set_option linter.unusedSimpArgs false
set_option linter.unusedVariables false
set_option synthInstance.maxSize 2000
set_option synthInstance.maxHeartbeats 400000
set_option maxHeartbeats 4000000 in
set_option maxRecDepth 100000 in
theorem ref03_Check_c {Fs : List Hp} {G : Hp} {x0_0 : Int} {r : Int} (hG : G ∈ Fs)  (h : ref03_Check x0_0 = some r) : RetS Try.prog 32 #[.agg #[.int .i64 x0_0]] Fs [] [] (fun v bo so => v = .int .i64 r ∧ bo = [] ∧ so = []) := by
 unfold ref03_Check at h
 try dsimp only at h
 refine RetS.of (vs := [_]) Try.func32 rfl Try.ntmps32 [(0, _)] ⟨rfl, trivial⟩ rfl hG fun w0 S0 hS0 B0 => ?_
 refine Cov.seq ?_;refine Cov.region rfl ?_
 refine Cov.box [_] .ro rfl rfl rfl (fun b1 hb1 => ?_)
 refine Cov.q .ro (.assign rfl) rfl ?_;refine Cov.region_end ?_;refine Cov.seq ?_;refine Cov.seq ?_;refine Cov.region rfl ?_;refine Cov.q .ro (.fieldAddr 0 rfl fl54_0 ty3.sz rfl) rfl ?_;refine Cov.q .ro (.load_own 0 rfl rfl ty3 rfl) rfl ?_;refine Cov.q .ro (.lss rfl rfl) rfl ?_;refine Cov.q .ro (.move rfl) rfl ?_
 refine Cov.cutR 4 (β := Unit) (fun y => [(11, .bool (decide ((x0_0 < 2) ∨ (65521 < x0_0))))]) [(1, _)] (fun y => G :: Fs) (fun y => []) [_] (fun y => []) [] (fun y => True) ⟨rfl, trivial⟩ [0] rfl [] rfl ?_ ?_
 ·rintro _ _
  refine Cov.prune [(11, .bool (decide ((x0_0 < 2) ∨ (65521 < x0_0)))), (1, _)] ⟨rfl, rfl, trivial⟩ ?_;refine Cov.same (bl' := [_]) (sl' := []) (Fs' := G :: Fs) rfl rfl rfl ?_;refine Cov.region_end ?_
  refine Cov.cond_dec rfl (fun c6 => ?_) (fun c6 => ?_)
  ·have r7 := ifT h c6; clear h
   refine Cov.seq ?_;refine Cov.region rfl ?_;refine Cov.q .ro (.assign rfl) rfl ?_;refine Cov.region_end ?_
   cases r7
   refine Cov.drop 1 0 [] _ rfl rfl ?_
   refine Cov.retS (c := ⟨32, none⟩) (.inr ⟨_, rfl⟩) [.tmp 2] [_] rfl Try.func32 Try.results32 ⟨RV.tmp rfl, trivial⟩ (fun _ h => List.mem_cons_of_mem _ h) ⟨rfl, rfl, rfl⟩
  ·have r8 := ifF h c6; clear h
   refine Cov.skip ?_;refine Cov.seq ?_;refine Cov.seq ?_;refine Cov.region rfl ?_;refine Cov.q .ro (.assign rfl) rfl ?_;refine Cov.region_end ?_;refine Cov.block ?_
   refine Cov.loop2 (α := Nat × Int) (fun y => [(3, .int .i64 y.2)]) [(1, _)] (fun y => []) (fun y => []) [_] (fun y => []) [] (fun y => ref03_Check_L1 x0_0 y.1 y.2 = some r) (fun y => y.1) (big, 2) r8 ⟨rfl, rfl, trivial⟩ rfl rfl rfl (fun y hI hb24 => ?_)
   obtain ⟨n20, v22⟩ := y
   have r23 := hI; clear hI
   try dsimp only at r23
   refine Cov.prune [(3, .int .i64 v22), (1, _)] ⟨rfl, rfl, trivial⟩ ?_;refine Cov.same (bl' := [_]) (sl' := []) (Fs' := G :: Fs) rfl rfl rfl ?_
   obtain ⟨m27, rfl⟩ : ∃ m, n20 = m + 1 := by cases n20 with | zero => exact absurd (show (none : Option _) = some _ from r23) (by simp) | succ m => exact ⟨m, rfl⟩
   have r26 : ref03_Check_B1 x0_0 (ref03_Check_L1 x0_0 m27) v22 = some r := r23; clear r23; unfold ref03_Check_B1 at r26; try dsimp only at r26
   refine Cov.seq ?_;refine Cov.seq ?_;refine Cov.region rfl ?_;refine Cov.q .ro (.move rfl) rfl ?_;refine Cov.q .ro (.move rfl) rfl ?_;refine Cov.q .ro (.mulw rfl rfl) rfl ?_;refine Cov.q .ro (.fieldAddr 0 rfl fl54_0 ty3.sz rfl) rfl ?_;refine Cov.q .ro (.load_own 0 rfl rfl ty3 rfl) rfl ?_;refine Cov.q .ro (.leq rfl rfl) rfl ?_
   refine Cov.region_end ?_
   refine Cov.cond_dec rfl (fun c28 => ?_) (fun c28 => ?_)
   ·have r29 := ifT r26 c28; clear r26
    refine Cov.skip ?_;refine Cov.seq ?_;refine Cov.block ?_;refine Cov.seq ?_;refine Cov.region rfl ?_;refine Cov.q .ro (.fieldAddr 0 rfl fl54_0 ty3.sz rfl) rfl ?_;refine Cov.q .ro (.load_own 0 rfl rfl ty3 rfl) rfl ?_;refine Cov.q .ro (.move rfl) rfl ?_
    obtain ⟨u30, hu30, r31⟩ := bind_some r29; clear r29
    refine Cov.q .ro (.remt rfl rfl (nz_some hu30)) rfl ?_;refine Cov.q .ro (.eql rfl rfl) rfl ?_;refine Cov.region_end ?_
    refine Cov.cond_dec rfl (fun c32 => ?_) (fun c32 => ?_)
    ·have r33 := ifT r31 c32; clear r31
     refine Cov.seq ?_;refine Cov.region rfl ?_;refine Cov.q .ro (.assign rfl) rfl ?_;refine Cov.region_end ?_;refine Cov.prune [(2, _)] ⟨rfl, trivial⟩ ?_
     cases r33
     refine Cov.drop 1 0 [] _ rfl rfl ?_
     refine Cov.retS (c := ⟨32, none⟩) (.inr ⟨_, rfl⟩) [.tmp 2] [_] rfl Try.func32 Try.results32 ⟨RV.tmp rfl, trivial⟩ (fun _ h => List.mem_cons_of_mem _ h) ⟨rfl, rfl, rfl⟩
    ·have r34 := ifF r31 c32; clear r31
     refine Cov.skip ?_;refine Cov.inBlock ?_;refine Cov.region rfl ?_;refine Cov.q .ro (.move rfl) rfl ?_;refine Cov.q .ro (.addw rfl rfl) rfl ?_;refine Cov.q .ro (.assign rfl) rfl ?_;refine Cov.region_end ?_;refine Cov.prune [(3, _), (1, _)] ⟨rfl, rfl, trivial⟩ ?_
     refine Cov.prune _ ?_ (Cov.same rfl rfl rfl (hb24 (m27, (w64 (v22 + 1))) r34 (Nat.lt_succ_self _)))
     exact ⟨rfl, rfl, trivial⟩
   ·have r35 := ifF r26 c28; clear r26
    refine Cov.exit rfl ?_;refine Cov.seq ?_;refine Cov.region rfl ?_;refine Cov.q .ro (.assign rfl) rfl ?_;refine Cov.region_end ?_
    cases r35
    refine Cov.drop 1 0 [] _ rfl rfl ?_
    refine Cov.retS (c := ⟨32, none⟩) (.inr ⟨_, rfl⟩) [.tmp 2] [_] rfl Try.func32 Try.results32 ⟨RV.tmp rfl, trivial⟩ (fun _ h => List.mem_cons_of_mem _ h) ⟨rfl, rfl, rfl⟩
 ·intro hb3
  refine Cov.split 7 rfl (fun c2 => ?_) (fun c2 => ?_)
  ·refine Cov.g_off rfl rfl rfl ?_
   refine Cov.g_off rfl rfl rfl ?_;refine Cov.g_off rfl rfl rfl ?_;refine Cov.q .ro (.pick_t rfl rfl) rfl ?_
   refine Cov.prune _ ?_ (Cov.same rfl rfl rfl (hb3 () trivial))
   exact ⟨dor_t c2, rfl, trivial⟩
  ·refine Cov.g_on rfl ?_
   refine Cov.q .ro (.fieldAddr 0 rfl fl54_0 ty3.sz rfl) rfl ?_;refine Cov.g_on rfl ?_;refine Cov.q .ro (.load_own 0 rfl rfl ty3 rfl) rfl ?_;refine Cov.g_on rfl ?_;refine Cov.q .ro (.gtr rfl rfl) rfl ?_;refine Cov.q .ro (.pick_f rfl rfl) rfl ?_
   refine Cov.prune _ ?_ (Cov.same rfl rfl rfl (hb3 () trivial))
   exact ⟨dor_f c2, rfl, trivial⟩
set_option maxHeartbeats 4000000 in
set_option maxRecDepth 100000 in
theorem ref03_In_c {Fs : List Hp} {G : Hp} {x0_0 : Int} {a1 : Option Addr} {k1 : Nat} {x1 : List Int} {r : Bool} (hG : G ∈ Fs) (s1 : SlR (Rep.int .i64) G a1 k1 x1) (h : ref03_In x0_0 x1 = some r) : RetS Try.prog 33 #[.agg #[.int .i64 x0_0], .slice a1 x1.length k1] Fs [] [] (fun v bo so => v = .bool r ∧ bo = [] ∧ so = []) := by
 unfold ref03_In at h
 try dsimp only at h
 refine RetS.of (vs := [_, _]) Try.func33 rfl Try.ntmps33 [(0, _), (1, _)] ⟨rfl, rfl, trivial⟩ rfl hG fun w0 S0 hS0 B0 => ?_
 refine Cov.seq ?_;refine Cov.region rfl ?_
 refine Cov.box [_] .ro rfl rfl rfl (fun b1 hb1 => ?_)
 refine Cov.q .ro (.assign rfl) rfl ?_;refine Cov.region_end ?_;refine Cov.seq ?_;refine Cov.seq ?_;refine Cov.region rfl ?_;refine Cov.q .ro (.load_own_a 0 [_] rfl rfl ty54 rfl) rfl ?_
 obtain ⟨u2, hu2, r3⟩ := bind_some h; clear h
 refine Cov.callS (b1 := []) (b2 := [_]) (s1 := []) [_] [] .ro rfl rfl Try.call32 rfl rfl (ref03_Check_c (G := G) List.mem_cons_self  hu2) rfl (fun v5 bo so h4 => ?_)
 obtain ⟨rfl, rfl, rfl⟩ := h4
 refine Cov.same (bl' := [_]) (sl' := []) rfl rfl rfl ?_;refine Cov.q .ro (.neq rfl rfl) rfl ?_;refine Cov.region_end ?_
 refine Cov.cond_dec rfl (fun c6 => ?_) (fun c6 => ?_)
 ·have r7 := ifT r3 c6; clear r3
  refine Cov.seq ?_;refine Cov.region rfl ?_;refine Cov.q .ro (.assign rfl) rfl ?_;refine Cov.region_end ?_
  cases r7
  refine Cov.drop 1 0 [] _ rfl rfl ?_
  refine Cov.retS (c := ⟨33, none⟩) (.inr ⟨_, rfl⟩) [.tmp 4] [_] rfl Try.func33 Try.results33 ⟨RV.tmp rfl, trivial⟩ (fun _ h => List.mem_cons_of_mem _ h) ⟨rfl, rfl, rfl⟩
 ·have r8 := ifF r3 c6; clear r3
  refine Cov.skip ?_;refine Cov.seq ?_;refine Cov.seq ?_;refine Cov.region rfl ?_;refine Cov.q .ro (.move rfl) rfl ?_;refine Cov.q .ro (.len_sl rfl rfl sl39) rfl ?_;refine Cov.q .ro (.move rfl) rfl ?_;refine Cov.region_end ?_;refine Cov.block ?_
  refine Cov.loop2 (α := Nat × List Int) (fun y => [(12, .int .i64 (y.1 : Int))]) [(2, _), (10, _), (11, _)] (fun y => []) (fun y => []) [_] (fun y => []) [] (fun y => List.drop y.1 x1 = y.2 ∧ ref03_In_L1 x0_0 y.2  = some r) (fun y => y.2.length) (0, x1) ⟨rfl, r8⟩ ⟨rfl, rfl, rfl, rfl, trivial⟩ rfl rfl rfl (fun y hI hb32 => ?_)
  obtain ⟨i28, w29⟩ := y
  obtain ⟨g30, r31⟩ := hI
  try dsimp only at g30 r31
  refine Cov.prune [(12, .int .i64 (i28 : Int)), (2, _), (10, _), (11, _)] ⟨rfl, rfl, rfl, rfl, trivial⟩ ?_;refine Cov.same (bl' := [_]) (sl' := []) (Fs' := G :: Fs) rfl rfl rfl ?_
  cases w29 with
  | nil =>
   rw [ref03_In_L1] at r31; try dsimp only at r31
   refine Cov.seq ?_;refine Cov.region rfl ?_;refine Cov.q .ro (.lss rfl rfl) rfl ?_;refine Cov.region_end ?_;refine Cov.seq ?_
   refine Cov.cond_dec rfl (fun c => absurd c (drop_nil g30)) (fun _ => ?_)
   refine Cov.exit rfl ?_;refine Cov.seq ?_;refine Cov.region rfl ?_;refine Cov.q .ro (.assign rfl) rfl ?_;refine Cov.region_end ?_
   cases r31
   refine Cov.drop 1 0 [] _ rfl rfl ?_
   refine Cov.retS (c := ⟨33, none⟩) (.inr ⟨_, rfl⟩) [.tmp 4] [_] rfl Try.func33 Try.results33 ⟨RV.tmp rfl, trivial⟩ (fun _ h => List.mem_cons_of_mem _ h) ⟨rfl, rfl, rfl⟩
  | cons x37 xs38 =>
   have r36 : ref03_In_B1 x0_0 (ref03_In_L1 x0_0 xs38) x37  = some r := r31; clear r31; unfold ref03_In_B1 at r36; try dsimp only at r36
   refine Cov.seq ?_;refine Cov.region rfl ?_;refine Cov.q .ro (.lss rfl rfl) rfl ?_;refine Cov.region_end ?_;refine Cov.seq ?_
   refine Cov.cond_dec rfl (fun _ => ?_) (fun c => absurd (drop_lt g30) c)
   refine Cov.skip ?_;refine Cov.seq ?_;refine Cov.block ?_;refine Cov.seq ?_;refine Cov.region rfl ?_
   obtain ⟨c39, p40, h41⟩ := SlR.get s1 (drop_idx g30)
   obtain rfl := h41
   refine Cov.q .ro (.idxR s1 rfl rfl (drop_idx g30) sl39 ty3.sz) rfl ?_;refine Cov.q .ro (.load_rp p40 List.mem_cons_self rfl ty3 rfl) rfl ?_;refine Cov.q .ro (.assign rfl) rfl ?_;refine Cov.region_end ?_;refine Cov.seq ?_;refine Cov.region rfl ?_;refine Cov.q .ro (.move rfl) rfl ?_;refine Cov.q .ro (.lss rfl rfl) rfl ?_;refine Cov.q .ro (.move rfl) rfl ?_
   refine Cov.cutR 5 (β := Unit) (fun y => [(23, .bool (decide ((x37 < 0) ∨ (x0_0 ≤ x37))))]) [(12, _), (2, _), (10, _), (11, _)] (fun y => G :: Fs) (fun y => []) [_] (fun y => []) [] (fun y => True) ⟨rfl, rfl, rfl, rfl, trivial⟩ [0] rfl [] rfl ?_ ?_
   ·rintro _ _
    refine Cov.prune [(23, .bool (decide ((x37 < 0) ∨ (x0_0 ≤ x37)))), (12, _), (2, _), (10, _), (11, _)] ⟨rfl, rfl, rfl, rfl, rfl, trivial⟩ ?_;refine Cov.same (bl' := [_]) (sl' := []) (Fs' := G :: Fs) rfl rfl rfl ?_;refine Cov.region_end ?_
    refine Cov.cond_dec rfl (fun c46 => ?_) (fun c46 => ?_)
    ·have r47 := ifT r36 c46; clear r36
     refine Cov.seq ?_;refine Cov.region rfl ?_;refine Cov.q .ro (.assign rfl) rfl ?_;refine Cov.region_end ?_
     cases r47
     refine Cov.drop 1 0 [] _ rfl rfl ?_
     refine Cov.retS (c := ⟨33, none⟩) (.inr ⟨_, rfl⟩) [.tmp 4] [_] rfl Try.func33 Try.results33 ⟨RV.tmp rfl, trivial⟩ (fun _ h => List.mem_cons_of_mem _ h) ⟨rfl, rfl, rfl⟩
    ·have r48 := ifF r36 c46; clear r36
     refine Cov.skip ?_;refine Cov.inBlock ?_;refine Cov.region rfl ?_;refine Cov.q .ro (.addw rfl rfl) rfl ?_;refine Cov.q .ro (.move rfl) rfl ?_;refine Cov.region_end ?_
     refine Cov.prune _ ?_ (Cov.same rfl rfl rfl (hb32 ((i28 + 1), xs38) ⟨(drop_succ g30), r48⟩ (Nat.lt_succ_self _)))
     exact ⟨(congrArg (fun z => some (Value.int .i64 z)) (idx_wrap (SlR.len s1) g30)), rfl, rfl, rfl, trivial⟩
   ·intro hb43
    refine Cov.split 18 rfl (fun c42 => ?_) (fun c42 => ?_)
    ·refine Cov.g_off rfl rfl rfl ?_
     refine Cov.g_off rfl rfl rfl ?_;refine Cov.g_off rfl rfl rfl ?_;refine Cov.g_off rfl rfl rfl ?_;refine Cov.q .ro (.pick_t rfl rfl) rfl ?_
     refine Cov.prune _ ?_ (Cov.same rfl rfl rfl (hb43 () trivial))
     exact ⟨dor_t c42, rfl, rfl, rfl, rfl, trivial⟩
    ·refine Cov.g_on rfl ?_
     refine Cov.q .ro (.move rfl) rfl ?_;refine Cov.g_on rfl ?_;refine Cov.q .ro (.fieldAddr 0 rfl fl54_0 ty3.sz rfl) rfl ?_;refine Cov.g_on rfl ?_;refine Cov.q .ro (.load_own 0 rfl rfl ty3 rfl) rfl ?_;refine Cov.g_on rfl ?_;refine Cov.q .ro (.geq rfl rfl) rfl ?_;refine Cov.q .ro (.pick_f rfl rfl) rfl ?_
     refine Cov.prune _ ?_ (Cov.same rfl rfl rfl (hb43 () trivial))
     exact ⟨dor_f c42, rfl, rfl, rfl, rfl, trivial⟩
set_option maxHeartbeats 4000000 in
set_option maxRecDepth 100000 in
theorem ref14_Check_c {Fs : List Hp} {G : Hp} {x0_0 : Int} {x0_1 : Int} {x0_2 : Int} {a0_3 : Option Addr} {k0_3 : Nat} {x0_3 : List (List Int)} {r : Int} (hG : G ∈ Fs) (s0_3 : SlR (Rep.sl (Rep.int .i64)) G a0_3 k0_3 x0_3) (h : ref14_Check (x0_0, x0_1, x0_2, x0_3) = some r) : RetS Try.prog 17 #[.agg #[.int .i64 x0_0, .int .i64 x0_1, .int .i64 x0_2, .slice a0_3 x0_3.length k0_3]] Fs [] [] (fun v bo so => v = .int .i64 r ∧ bo = [] ∧ so = []) := by
 unfold ref14_Check at h
 try dsimp only at h
 refine RetS.of (vs := [_]) Try.func17 rfl Try.ntmps17 [(0, _)] ⟨rfl, trivial⟩ rfl hG fun w0 S0 hS0 B0 => ?_
 refine Cov.seq ?_;refine Cov.region rfl ?_
 refine Cov.box [_, _, _, _] .ro rfl rfl rfl (fun b1 hb1 => ?_)
 refine Cov.q .ro (.assign rfl) rfl ?_;refine Cov.region_end ?_;refine Cov.seq ?_;refine Cov.seq ?_;refine Cov.region rfl ?_;refine Cov.q .ro (.fieldAddr 0 rfl fl57_0 ty3.sz rfl) rfl ?_;refine Cov.q .ro (.load_own 0 rfl rfl ty3 rfl) rfl ?_;refine Cov.q .ro (.lss rfl rfl) rfl ?_;refine Cov.q .ro (.move rfl) rfl ?_
 refine Cov.cutR 4 (β := Unit) (fun y => [(13, .bool (decide ((x0_0 < 1) ∨ (2147483647 ≤ x0_0))))]) [(1, _)] (fun y => G :: Fs) (fun y => []) [_] (fun y => []) [] (fun y => True) ⟨rfl, trivial⟩ [0] rfl [] rfl ?_ ?_
 ·rintro _ _
  refine Cov.prune [(13, .bool (decide ((x0_0 < 1) ∨ (2147483647 ≤ x0_0)))), (1, _)] ⟨rfl, rfl, trivial⟩ ?_;refine Cov.same (bl' := [_]) (sl' := []) (Fs' := G :: Fs) rfl rfl rfl ?_;refine Cov.region_end ?_
  refine Cov.cond_dec rfl (fun c6 => ?_) (fun c6 => ?_)
  ·have r7 := ifT h c6; clear h
   refine Cov.seq ?_;refine Cov.region rfl ?_;refine Cov.q .ro (.assign rfl) rfl ?_;refine Cov.region_end ?_
   cases r7
   refine Cov.drop 1 0 [] _ rfl rfl ?_
   refine Cov.retS (c := ⟨17, none⟩) (.inr ⟨_, rfl⟩) [.tmp 2] [_] rfl Try.func17 Try.results17 ⟨RV.tmp rfl, trivial⟩ (fun _ h => List.mem_cons_of_mem _ h) ⟨rfl, rfl, rfl⟩
  ·have r8 := ifF h c6; clear h
   refine Cov.skip ?_;refine Cov.seq ?_;refine Cov.seq ?_;refine Cov.region rfl ?_;refine Cov.q .ro (.fieldAddr 1 rfl fl57_1 ty54.sz rfl) rfl ?_;refine Cov.q .ro (.load_own_a 0 [_] rfl rfl ty54 rfl) rfl ?_
   obtain ⟨u9, hu9, r10⟩ := bind_some r8; clear r8
   refine Cov.callS (b1 := []) (b2 := [_]) (s1 := []) [_] [] .ro rfl rfl Try.call32 rfl rfl (ref03_Check_c (G := G) List.mem_cons_self  hu9) rfl (fun v12 bo so h11 => ?_)
   obtain ⟨rfl, rfl, rfl⟩ := h11
   refine Cov.same (bl' := [_]) (sl' := []) rfl rfl rfl ?_;refine Cov.q .ro (.assign rfl) rfl ?_;refine Cov.region_end ?_;refine Cov.seq ?_;refine Cov.region rfl ?_;refine Cov.q .ro (.move rfl) rfl ?_;refine Cov.q .ro (.neq rfl rfl) rfl ?_;refine Cov.region_end ?_
   refine Cov.cond_dec rfl (fun c13 => ?_) (fun c13 => ?_)
   ·have r14 := ifT r10 c13; clear r10
    refine Cov.seq ?_;refine Cov.region rfl ?_;refine Cov.q .ro (.move rfl) rfl ?_;refine Cov.q .ro (.assign rfl) rfl ?_;refine Cov.region_end ?_
    cases r14
    refine Cov.drop 1 0 [] _ rfl rfl ?_
    refine Cov.retS (c := ⟨17, none⟩) (.inr ⟨_, rfl⟩) [.tmp 2] [_] rfl Try.func17 Try.results17 ⟨RV.tmp rfl, trivial⟩ (fun _ h => List.mem_cons_of_mem _ h) ⟨rfl, rfl, rfl⟩
   ·have r15 := ifF r10 c13; clear r10
    refine Cov.skip ?_;refine Cov.seq ?_;refine Cov.seq ?_;refine Cov.region rfl ?_;refine Cov.q .ro (.fieldAddr 2 rfl fl57_2 ty3.sz rfl) rfl ?_;refine Cov.q .ro (.load_own 0 rfl rfl ty3 rfl) rfl ?_;refine Cov.q .ro (.lss rfl rfl) rfl ?_;refine Cov.q .ro (.move rfl) rfl ?_;refine Cov.cutR 4 (β := Unit) (fun y => [(27, .bool (decide ((x0_2 < 1) ∨ (64 < x0_2))))]) [(1, _)] (fun y => G :: Fs) (fun y => []) [_] (fun y => []) [] (fun y => True) ⟨rfl, trivial⟩ [0] rfl [] rfl ?_ ?_
    ·rintro _ _
     refine Cov.prune [(27, .bool (decide ((x0_2 < 1) ∨ (64 < x0_2)))), (1, _)] ⟨rfl, rfl, trivial⟩ ?_;refine Cov.same (bl' := [_]) (sl' := []) (Fs' := G :: Fs) rfl rfl rfl ?_;refine Cov.region_end ?_
     refine Cov.cond_dec rfl (fun c20 => ?_) (fun c20 => ?_)
     ·have r21 := ifT r15 c20; clear r15
      refine Cov.seq ?_;refine Cov.region rfl ?_;refine Cov.q .ro (.assign rfl) rfl ?_;refine Cov.region_end ?_
      cases r21
      refine Cov.drop 1 0 [] _ rfl rfl ?_
      refine Cov.retS (c := ⟨17, none⟩) (.inr ⟨_, rfl⟩) [.tmp 2] [_] rfl Try.func17 Try.results17 ⟨RV.tmp rfl, trivial⟩ (fun _ h => List.mem_cons_of_mem _ h) ⟨rfl, rfl, rfl⟩
     ·have r22 := ifF r15 c20; clear r15
      refine Cov.skip ?_;refine Cov.seq ?_;refine Cov.seq ?_;refine Cov.region rfl ?_;refine Cov.q .ro (.fieldAddr 3 rfl fl57_3 ty55.sz rfl) rfl ?_;refine Cov.q .ro (.load_own 0 rfl rfl ty55 rfl) rfl ?_;refine Cov.q .ro (.len_sl rfl rfl sl55) rfl ?_;refine Cov.q .ro (.gtr rfl rfl) rfl ?_;refine Cov.region_end ?_
      refine Cov.cond_dec rfl (fun c23 => ?_) (fun c23 => ?_)
      ·have r24 := ifT r22 c23; clear r22
       refine Cov.seq ?_;refine Cov.region rfl ?_;refine Cov.q .ro (.assign rfl) rfl ?_;refine Cov.region_end ?_
       cases r24
       refine Cov.drop 1 0 [] _ rfl rfl ?_
       refine Cov.retS (c := ⟨17, none⟩) (.inr ⟨_, rfl⟩) [.tmp 2] [_] rfl Try.func17 Try.results17 ⟨RV.tmp rfl, trivial⟩ (fun _ h => List.mem_cons_of_mem _ h) ⟨rfl, rfl, rfl⟩
      ·have r25 := ifF r22 c23; clear r22
       refine Cov.skip ?_;refine Cov.seq ?_;refine Cov.seq ?_;refine Cov.region rfl ?_;refine Cov.q .ro (.fieldAddr 3 rfl fl57_3 ty55.sz rfl) rfl ?_;refine Cov.q .ro (.load_own 0 rfl rfl ty55 rfl) rfl ?_;refine Cov.q .ro (.len_sl rfl rfl sl55) rfl ?_;refine Cov.q .ro (.move rfl) rfl ?_;refine Cov.region_end ?_
       refine Cov.block ?_
       refine Cov.loop2 (α := Nat × List (List Int)) (fun y => [(35, .int .i64 (y.1 : Int))]) [(1, _), (33, _), (34, _)] (fun y => []) (fun y => []) [_] (fun y => []) [] (fun y => List.drop y.1 x0_3 = y.2 ∧ ref14_Check_L1 x0_1 x0_2 y.2  = some r) (fun y => y.2.length) (0, x0_3) ⟨rfl, r25⟩ ⟨rfl, rfl, rfl, rfl, trivial⟩ rfl rfl rfl (fun y hI hb57 => ?_)
       obtain ⟨i53, w54⟩ := y
       obtain ⟨g55, r56⟩ := hI
       try dsimp only at g55 r56
       refine Cov.prune [(35, .int .i64 (i53 : Int)), (1, _), (33, _), (34, _)] ⟨rfl, rfl, rfl, rfl, trivial⟩ ?_;refine Cov.same (bl' := [_]) (sl' := []) (Fs' := G :: Fs) rfl rfl rfl ?_
       cases w54 with
       | nil =>
        rw [ref14_Check_L1] at r56; try dsimp only at r56
        refine Cov.seq ?_;refine Cov.region rfl ?_;refine Cov.q .ro (.lss rfl rfl) rfl ?_;refine Cov.region_end ?_;refine Cov.seq ?_
        refine Cov.cond_dec rfl (fun c => absurd c (drop_nil g55)) (fun _ => ?_)
        refine Cov.exit rfl ?_;refine Cov.seq ?_;refine Cov.region rfl ?_;refine Cov.q .ro (.assign rfl) rfl ?_;refine Cov.region_end ?_
        cases r56
        refine Cov.drop 1 0 [] _ rfl rfl ?_
        refine Cov.retS (c := ⟨17, none⟩) (.inr ⟨_, rfl⟩) [.tmp 2] [_] rfl Try.func17 Try.results17 ⟨RV.tmp rfl, trivial⟩ (fun _ h => List.mem_cons_of_mem _ h) ⟨rfl, rfl, rfl⟩
       | cons x64 xs65 =>
        have r63 : ref14_Check_B1 x0_1 x0_2 (ref14_Check_L1 x0_1 x0_2 xs65) x64  = some r := r56; clear r56; unfold ref14_Check_B1 at r63; try dsimp only at r63
        refine Cov.seq ?_;refine Cov.region rfl ?_;refine Cov.q .ro (.lss rfl rfl) rfl ?_;refine Cov.region_end ?_;refine Cov.seq ?_
        refine Cov.cond_dec rfl (fun _ => ?_) (fun c => absurd (drop_lt g55) c)
        refine Cov.skip ?_;refine Cov.seq ?_;refine Cov.block ?_;refine Cov.seq ?_;refine Cov.region rfl ?_
        obtain ⟨c66, p67, h68⟩ := SlR.get s0_3 (drop_idx g55)
        obtain ⟨a69, k70, rfl, s71⟩ := h68
        refine Cov.q .ro (.idxR s0_3 rfl rfl (drop_idx g55) sl55 ty39.sz) rfl ?_;refine Cov.q .ro (.load_rp p67 List.mem_cons_self rfl ty39 rfl) rfl ?_;refine Cov.q .ro (.assign rfl) rfl ?_;refine Cov.region_end ?_;refine Cov.seq ?_;refine Cov.seq ?_;refine Cov.region rfl ?_;refine Cov.q .ro (.move rfl) rfl ?_;refine Cov.q .ro (.len_sl rfl rfl sl39) rfl ?_
        refine Cov.q .ro (.fieldAddr 2 rfl fl57_2 ty3.sz rfl) rfl ?_;refine Cov.q .ro (.load_own 0 rfl rfl ty3 rfl) rfl ?_;refine Cov.q .ro (.neq rfl rfl) rfl ?_;refine Cov.region_end ?_
        refine Cov.cond_dec rfl (fun c72 => ?_) (fun c72 => ?_)
        ·have r73 := ifT r63 c72; clear r63
         refine Cov.seq ?_;refine Cov.region rfl ?_;refine Cov.q .ro (.assign rfl) rfl ?_;refine Cov.region_end ?_;refine Cov.prune [(2, _)] ⟨rfl, trivial⟩ ?_
         cases r73
         refine Cov.drop 1 0 [] _ rfl rfl ?_
         refine Cov.retS (c := ⟨17, none⟩) (.inr ⟨_, rfl⟩) [.tmp 2] [_] rfl Try.func17 Try.results17 ⟨RV.tmp rfl, trivial⟩ (fun _ h => List.mem_cons_of_mem _ h) ⟨rfl, rfl, rfl⟩
        ·have r74 := ifF r63 c72; clear r63
         refine Cov.skip ?_;refine Cov.seq ?_;refine Cov.region rfl ?_;refine Cov.q .ro (.fieldAddr 1 rfl fl57_1 ty54.sz rfl) rfl ?_;refine Cov.q .ro (.load_own_a 0 [_] rfl rfl ty54 rfl) rfl ?_;refine Cov.q .ro (.move rfl) rfl ?_
         obtain ⟨u75, hu75, r76⟩ := bind_some r74; clear r74
         refine Cov.callS (b1 := []) (b2 := [_]) (s1 := []) [_, _] [] .ro rfl rfl Try.call33 rfl rfl (ref03_In_c (G := G) List.mem_cons_self s71 hu75) rfl (fun v78 bo so h77 => ?_)
         obtain ⟨rfl, rfl, rfl⟩ := h77
         refine Cov.same (bl' := [_]) (sl' := []) rfl rfl rfl ?_;refine Cov.q .ro (.not rfl) rfl ?_;refine Cov.region_end ?_;refine Cov.prune [(35, _), (1, _), (33, _), (34, _), (48, _)] ⟨rfl, rfl, rfl, rfl, rfl, trivial⟩ ?_
         refine Cov.cond rfl (fun c79 => ?_) (fun c79 => ?_)
         ·have r80 := ifT r76 c79; clear r76
          refine Cov.seq ?_;refine Cov.region rfl ?_;refine Cov.q .ro (.assign rfl) rfl ?_;refine Cov.region_end ?_
          cases r80
          refine Cov.drop 1 0 [] _ rfl rfl ?_
          refine Cov.retS (c := ⟨17, none⟩) (.inr ⟨_, rfl⟩) [.tmp 2] [_] rfl Try.func17 Try.results17 ⟨RV.tmp rfl, trivial⟩ (fun _ h => List.mem_cons_of_mem _ h) ⟨rfl, rfl, rfl⟩
         ·have r81 := ifBF r76 c79; clear r76
          refine Cov.skip ?_;refine Cov.inBlock ?_;refine Cov.region rfl ?_;refine Cov.q .ro (.addw rfl rfl) rfl ?_;refine Cov.q .ro (.move rfl) rfl ?_;refine Cov.region_end ?_
          refine Cov.prune _ ?_ (Cov.same rfl rfl rfl (hb57 ((i53 + 1), xs65) ⟨(drop_succ g55), r81⟩ (Nat.lt_succ_self _)))
          exact ⟨(congrArg (fun z => some (Value.int .i64 z)) (idx_wrap (SlR.len s0_3) g55)), rfl, rfl, rfl, trivial⟩
    ·intro hb17
     refine Cov.split 23 rfl (fun c16 => ?_) (fun c16 => ?_)
     ·refine Cov.g_off rfl rfl rfl ?_
      refine Cov.g_off rfl rfl rfl ?_;refine Cov.g_off rfl rfl rfl ?_;refine Cov.q .ro (.pick_t rfl rfl) rfl ?_
      refine Cov.prune _ ?_ (Cov.same rfl rfl rfl (hb17 () trivial))
      exact ⟨dor_t c16, rfl, trivial⟩
     ·refine Cov.g_on rfl ?_
      refine Cov.q .ro (.fieldAddr 2 rfl fl57_2 ty3.sz rfl) rfl ?_;refine Cov.g_on rfl ?_;refine Cov.q .ro (.load_own 0 rfl rfl ty3 rfl) rfl ?_;refine Cov.g_on rfl ?_;refine Cov.q .ro (.gtr rfl rfl) rfl ?_;refine Cov.q .ro (.pick_f rfl rfl) rfl ?_
      refine Cov.prune _ ?_ (Cov.same rfl rfl rfl (hb17 () trivial))
      exact ⟨dor_f c16, rfl, trivial⟩
 ·intro hb3
  refine Cov.split 9 rfl (fun c2 => ?_) (fun c2 => ?_)
  ·refine Cov.g_off rfl rfl rfl ?_
   refine Cov.g_off rfl rfl rfl ?_;refine Cov.g_off rfl rfl rfl ?_;refine Cov.q .ro (.pick_t rfl rfl) rfl ?_
   refine Cov.prune _ ?_ (Cov.same rfl rfl rfl (hb3 () trivial))
   exact ⟨dor_t c2, rfl, trivial⟩
  ·refine Cov.g_on rfl ?_
   refine Cov.q .ro (.fieldAddr 0 rfl fl57_0 ty3.sz rfl) rfl ?_;refine Cov.g_on rfl ?_;refine Cov.q .ro (.load_own 0 rfl rfl ty3 rfl) rfl ?_;refine Cov.g_on rfl ?_;refine Cov.q .ro (.geq rfl rfl) rfl ?_;refine Cov.q .ro (.pick_f rfl rfl) rfl ?_
   refine Cov.prune _ ?_ (Cov.same rfl rfl rfl (hb3 () trivial))
   exact ⟨dor_f c2, rfl, trivial⟩
set_option maxHeartbeats 4000000 in
set_option maxRecDepth 100000 in
theorem lookup_bytesOf_f1_c {Fs : List Hp} {G : Hp} {x0 : Int} {r : Bool} (hG : G ∈ Fs)  (h : lookup_bytesOf_f1 x0 = some r) : RetS Try.prog 57 #[.int .i64 x0] Fs [] [] (fun v bo so => v = .bool r ∧ bo = [] ∧ so = []) := by
 unfold lookup_bytesOf_f1 at h
 try dsimp only at h
 refine RetS.of (vs := [_]) Try.func57 rfl Try.ntmps57 [(0, _)] ⟨rfl, trivial⟩ rfl hG fun w0 S0 hS0 B0 => ?_
 refine Cov.seq ?_;refine Cov.region rfl ?_;refine Cov.q .ro (.assign rfl) rfl ?_;refine Cov.region_end ?_;refine Cov.seq ?_;refine Cov.region rfl ?_;refine Cov.q .ro (.move rfl) rfl ?_;refine Cov.q .ro (.lss rfl rfl) rfl ?_;refine Cov.q .ro (.move rfl) rfl ?_
 refine Cov.cutR 3 (β := Unit) (fun y => [(8, .bool (decide ((x0 < 0) ∨ (256 ≤ x0))))]) [(2, _)] (fun y => G :: Fs) (fun y => []) [] (fun y => []) [] (fun y => True) ⟨rfl, trivial⟩ [] rfl [] rfl ?_ ?_
 ·rintro _ _
  refine Cov.prune [(8, .bool (decide ((x0 < 0) ∨ (256 ≤ x0)))), (2, _)] ⟨rfl, rfl, trivial⟩ ?_;refine Cov.same (bl' := []) (sl' := []) (Fs' := G :: Fs) rfl rfl rfl ?_;refine Cov.q .ro (.assign rfl) rfl ?_;refine Cov.region_end ?_
  cases h
  refine Cov.retS (c := ⟨57, none⟩) (.inr ⟨_, rfl⟩) [.tmp 2] [_] rfl Try.func57 Try.results57 ⟨RV.tmp rfl, trivial⟩ (fun _ h => List.mem_cons_of_mem _ h) ⟨rfl, rfl, rfl⟩
 ·intro hb2
  refine Cov.split 5 rfl (fun c1 => ?_) (fun c1 => ?_)
  ·refine Cov.g_off rfl rfl rfl ?_
   refine Cov.g_off rfl rfl rfl ?_;refine Cov.q .ro (.pick_t rfl rfl) rfl ?_
   refine Cov.prune _ ?_ (Cov.same rfl rfl rfl (hb2 () trivial))
   exact ⟨dor_t c1, rfl, trivial⟩
  ·refine Cov.g_on rfl ?_
   refine Cov.q .ro (.move rfl) rfl ?_;refine Cov.g_on rfl ?_;refine Cov.q .ro (.geq rfl rfl) rfl ?_;refine Cov.q .ro (.pick_f rfl rfl) rfl ?_
   refine Cov.prune _ ?_ (Cov.same rfl rfl rfl (hb2 () trivial))
   exact ⟨dor_f c1, rfl, trivial⟩
set_option maxHeartbeats 4000000 in
set_option maxRecDepth 100000 in
theorem lookup_bytesOf_c {Fs : List Hp} {G : Hp} {a0 : Option Addr} {k0 : Nat} {x0 : List Int} {r : (ByteArray × Bool)} (hG : G ∈ Fs) (s0 : SlR (Rep.int .i64) G a0 k0 x0) (h : lookup_bytesOf x0 = some r) : RetS Try.prog 34 #[.slice a0 x0.length k0] Fs [] [] (fun v bo so => v = .tuple #[.string r.1, .bool r.2] ∧ bo = [] ∧ so = []) := by
 unfold lookup_bytesOf at h
 try dsimp only at h
 refine RetS.of (vs := [_]) Try.func34 rfl Try.ntmps34 [(0, _)] ⟨rfl, trivial⟩ rfl hG fun w0 S0 hS0 B0 => ?_
 refine Cov.seq ?_;refine Cov.region rfl ?_;refine Cov.q .ro (.assign rfl) rfl ?_;refine Cov.q .ro (.assign rfl) rfl ?_;refine Cov.region_end ?_;refine Cov.seq ?_;refine Cov.seq ?_;refine Cov.region rfl ?_;refine Cov.q .ro (.move rfl) rfl ?_
 obtain ⟨u1, hu1, r2⟩ := bind_some h; clear h
 refine Cov.callS (b1 := []) (b2 := []) (s1 := []) [_, _] [] .ro rfl rfl Try.call56 rfl rfl (slices_ContainsFunc_Lintint_c (G := G) List.mem_cons_self s0 Try.call57 (fun Fs' G1 hle hm y0 r  hr => lookup_bytesOf_f1_c (G := G1) hm   hr) hu1) rfl (fun v4 bo so h3 => ?_)
 obtain ⟨rfl, rfl, rfl⟩ := h3
 refine Cov.same (bl' := []) (sl' := []) rfl rfl rfl ?_;refine Cov.region_end ?_
 refine Cov.cond rfl (fun c5 => ?_) (fun c5 => ?_)
 ·have r6 := ifT r2 c5; clear r2
  refine Cov.seq ?_;refine Cov.region rfl ?_;refine Cov.q .ro (.assign rfl) rfl ?_;refine Cov.q .ro (.assign rfl) rfl ?_;refine Cov.region_end ?_
  cases r6
  refine Cov.retS (c := ⟨34, none⟩) (.inr ⟨_, rfl⟩) [.tmp 2, .tmp 3] [_, _] rfl Try.func34 Try.results34 ⟨RV.tmp rfl, RV.tmp rfl, trivial⟩ (fun _ h => List.mem_cons_of_mem _ h) ⟨rfl, rfl, rfl⟩
 ·have r7 := ifBF r2 c5; clear r2
  refine Cov.skip ?_;refine Cov.seq ?_;refine Cov.region rfl ?_;refine Cov.q .ro (.move rfl) rfl ?_;refine Cov.q .ro (.len_sl rfl rfl sl39) rfl ?_
  obtain ⟨u8, hu8, r9⟩ := bind_some r7; clear r7
  refine Cov.makeR (G := G) (Q := (Rep.int .u8)) .ro sl22 ty5 rfl rfl rfl ((Rep.intI .u8 0) :) rfl rfl hu8 rfl rfl (fun b10 cs11 hb10 o12 => ?_)
  refine Cov.q .ro (.assign rfl) rfl ?_;refine Cov.region_end ?_;refine Cov.seq ?_;refine Cov.seq ?_;refine Cov.region rfl ?_;refine Cov.q .ro (.move rfl) rfl ?_;refine Cov.q .ro (.len_sl rfl rfl sl39) rfl ?_;refine Cov.q .ro (.move rfl) rfl ?_;refine Cov.region_end ?_
  refine Cov.cutB (β := List Int × Option Addr × Nat × List Value) (fun y => [(4, .slice y.2.1 y.1.length y.2.2.1)]) [] (fun y => G :: Fs) (fun y => []) [] (fun y => [.s (.slice y.2.1 y.1.length y.2.2.1) 5 1 y.1.length y.2.2.2]) [] (fun y => OL (Rep.int .u8) G y.2.2.2 y.1 ∧ lookup_bytesOf_J1 y.1 = some r) trivial [] rfl [] rfl ?_ ?_
  ·intro y hI
   obtain ⟨v64, a65, k66, cs67⟩ := y
   obtain ⟨o68, r71⟩ := hI
   try dsimp only at o68 r71
   refine Cov.prune [(4, .slice a65 v64.length k66)] ⟨rfl, trivial⟩ ?_;refine Cov.same (bl' := []) (sl' := [.s (.slice a65 v64.length k66) 5 1 v64.length cs67]) (Fs' := G :: Fs) rfl rfl rfl ?_
   unfold lookup_bytesOf_J1 at r71
   try dsimp only at r71
   refine Cov.seq ?_;refine Cov.region rfl ?_;refine Cov.q .ro (.move rfl) rfl ?_
   refine Cov.freezeR 0 rfl rfl o68 [] rfl B0 (fun G72 e73 B74 s75 => ?_)
   refine Cov.q .ro (.b2s s75 List.mem_cons_self rfl Try.underlying22 Try.underlying5 Try.underlying9) rfl ?_;refine Cov.q .ro (.assign rfl) rfl ?_;refine Cov.q .ro (.assign rfl) rfl ?_;refine Cov.region_end ?_
   cases r71
   refine Cov.retS (c := ⟨34, none⟩) (.inr ⟨_, rfl⟩) [.tmp 2, .tmp 3] [_, _] rfl Try.func34 Try.results34 ⟨RV.tmp rfl, RV.tmp rfl, trivial⟩ (fun _ h => List.mem_cons_of_mem _ h) ⟨rfl, rfl, rfl⟩
  ·intro hb77
   refine Cov.block ?_
   refine Cov.loop2 (α := Nat × List Int × List Int × Option Addr × Nat × List Value) (fun y => [(4, .slice y.2.2.2.1 y.2.2.1.length y.2.2.2.2.1), (14, .int .i64 (y.1 : Int))]) [(12, _), (13, _)] (fun y => []) (fun y => []) [] (fun y => [.s (.slice y.2.2.2.1 y.2.2.1.length y.2.2.2.2.1) 5 1 y.2.2.1.length y.2.2.2.2.2]) [] (fun y => OL (Rep.int .u8) G y.2.2.2.2.2 y.2.2.1 ∧ List.drop y.1 x0 = y.2.1 ∧ lookup_bytesOf_L2 lookup_bytesOf_J1 y.2.1 y.1 y.2.2.1 = some r) (fun y => y.2.1.length) (0, x0, u8, (some ⟨b10, 0, none⟩), u8.length, cs11) ⟨o12, rfl, r9⟩ ⟨rfl, rfl, rfl, rfl, trivial⟩ rfl rfl rfl (fun y hI hb109 => ?_)
   obtain ⟨i99, w100, v102, a103, k104, cs105⟩ := y
   obtain ⟨o106, g101, r108⟩ := hI
   try dsimp only at o106 g101 r108
   refine Cov.prune [(4, .slice a103 v102.length k104), (14, .int .i64 (i99 : Int)), (12, _), (13, _)] ⟨rfl, rfl, rfl, rfl, trivial⟩ ?_;refine Cov.same (bl' := []) (sl' := [.s (.slice a103 v102.length k104) 5 1 v102.length cs105]) (Fs' := G :: Fs) rfl rfl rfl ?_
   cases w100 with
   | nil =>
    rw [lookup_bytesOf_L2] at r108; try dsimp only at r108
    refine Cov.seq ?_;refine Cov.region rfl ?_;refine Cov.q .ro (.lss rfl rfl) rfl ?_;refine Cov.region_end ?_;refine Cov.seq ?_
    refine Cov.cond_dec rfl (fun c => absurd c (drop_nil g101)) (fun _ => ?_)
    refine Cov.exit rfl ?_
    refine Cov.prune _ ?_ (Cov.same rfl rfl rfl (hb77 (v102, a103, k104, cs105) ⟨o106, r108⟩))
    exact ⟨rfl, trivial⟩
   | cons x113 xs114 =>
    have r112 : lookup_bytesOf_B2 lookup_bytesOf_J1 (lookup_bytesOf_L2 lookup_bytesOf_J1 xs114 (i99 + 1)) x113 i99 v102 = some r := r108; clear r108; unfold lookup_bytesOf_B2 at r112; try dsimp only at r112
    refine Cov.seq ?_;refine Cov.region rfl ?_;refine Cov.q .ro (.lss rfl rfl) rfl ?_;refine Cov.region_end ?_;refine Cov.seq ?_
    refine Cov.cond_dec rfl (fun _ => ?_) (fun c => absurd (drop_lt g101) c)
    refine Cov.skip ?_;refine Cov.seq ?_;refine Cov.block ?_;refine Cov.seq ?_;refine Cov.region rfl ?_;refine Cov.q .ro (.move rfl) rfl ?_
    obtain ⟨c115, p116, h117⟩ := SlR.get s0 (drop_idx g101)
    obtain rfl := h117
    refine Cov.q .ro (.idxR s0 rfl rfl (drop_idx g101) sl39 ty3.sz) rfl ?_;refine Cov.q .ro (.load_rp p116 List.mem_cons_self rfl ty3 rfl) rfl ?_;refine Cov.q .ro (.assign rfl) rfl ?_;refine Cov.q .ro (.assign rfl) rfl ?_;refine Cov.region_end ?_;refine Cov.region rfl ?_;refine Cov.q .ro (.move rfl) rfl ?_;refine Cov.q .ro (.move rfl) rfl ?_;refine Cov.q .ro (.move rfl) rfl ?_
    refine Cov.q .ro (.convw Try.underlying3 Try.underlying5 rfl) rfl ?_
    obtain ⟨u118, hu118, r119⟩ := bind_some r112; clear r112
    obtain ⟨c120, p121, h122⟩ := OL.get o106 hu118
    obtain rfl := h122
    refine Cov.q .ro (.idxO 0 rfl rfl rfl hu118 sl22 ty5.sz) rfl ?_
    obtain ⟨u123, hu123, r124⟩ := bind_some r119; clear r119
    refine Cov.storeR 0 0 (Q := (Rep.int .u8)) .ro rfl rfl o106 hu123 rfl (.inl ⟨rfl, rfl⟩) rfl ty5 p121 ((Rep.intI .u8 (wu8 x113)) :) rfl rfl (fun cs125 hlcs125 o126 => ?_)
    refine Cov.reval 4 hlcs125 rfl ?_;refine Cov.reval 19 hlcs125 rfl ?_;refine Cov.region_end ?_;refine Cov.inBlock ?_;refine Cov.region rfl ?_;refine Cov.q .ro (.addw rfl rfl) rfl ?_;refine Cov.q .ro (.move rfl) rfl ?_;refine Cov.region_end ?_
    refine Cov.prune _ ?_ (Cov.same rfl rfl rfl (hb109 ((i99 + 1), xs114, u123, a103, k104, cs125) ⟨o126, (drop_succ g101), r124⟩ (Nat.lt_succ_self _)))
    exact ⟨rfl, (congrArg (fun z => some (Value.int .i64 z)) (idx_wrap (SlR.len s0) g101)), rfl, rfl, trivial⟩
set_option maxHeartbeats 4000000 in
set_option maxRecDepth 100000 in
theorem keyword_Decode_c {Fs : List Hp} {G : Hp} {x0 : Int} {x1 : ByteArray} {r : ((List (ByteArray × Int)) × Int)} (hG : G ∈ Fs)  (h : keyword_Decode x0 x1 = some r) : RetW Try.prog 35 #[.int .i64 x0, .string x1] Fs [] [] (fun v bo so G => ∃ a0 : Option Addr, ∃ k0 : Nat, v = .tuple #[.slice a0 r.1.length k0, .int .i64 r.2] ∧ bo = [] ∧ so = [] ∧ SlR (Rep.pair Rep.str (Rep.int .i64)) G a0 k0 r.1) := by
 unfold keyword_Decode at h
 try dsimp only at h
 refine RetW.of (vs := [_, _]) Try.func35 rfl Try.ntmps35 [(0, _), (1, _)] ⟨rfl, rfl, trivial⟩ rfl hG fun w0 S0 hS0 B0 => ?_
 refine Cov.seq ?_;refine Cov.region rfl ?_;refine Cov.q .ro (.assign rfl) rfl ?_;refine Cov.q .ro (.assign rfl) rfl ?_;refine Cov.region_end ?_;refine Cov.seq ?_;refine Cov.seq ?_;refine Cov.region rfl ?_;refine Cov.q .ro (.move rfl) rfl ?_
 obtain ⟨u1, hu1, r2⟩ := bind_some h; clear h
 refine Cov.callS (b1 := []) (b2 := []) (s1 := []) [_] [] .ro rfl rfl Try.call51 rfl rfl (keyword_slotted_c (G := G) List.mem_cons_self  hu1) rfl (fun v4 bo so h3 => ?_)
 obtain ⟨rfl, rfl, rfl⟩ := h3
 refine Cov.same (bl' := []) (sl' := []) rfl rfl rfl ?_;refine Cov.q .ro (.not rfl) rfl ?_;refine Cov.region_end ?_
 refine Cov.cond rfl (fun c5 => ?_) (fun c5 => ?_)
 ·have r6 := ifT r2 c5; clear r2
  refine Cov.seq ?_;refine Cov.region rfl ?_;refine Cov.q .ro (.assign rfl) rfl ?_;refine Cov.q .ro (.assign rfl) rfl ?_;refine Cov.region_end ?_
  cases r6
  refine Cov.retW (c := ⟨35, none⟩) (.inr ⟨_, rfl⟩) [.tmp 4, .tmp 5] [_, _] rfl Try.func35 Try.results35 ⟨RV.tmp rfl, RV.tmp rfl, trivial⟩ (fun _ h => List.mem_cons_of_mem _ h) List.mem_cons_self B0 (by subst hS0; simp [blks]) (fun G' hg => ⟨none, 0, rfl, rfl, rfl, (SlR.mono hg (SlR.nil (Rp' := (Rep.pair Rep.str (Rep.int .i64)))))⟩)
 ·have r7 := ifBF r2 c5; clear r2
  refine Cov.skip ?_;refine Cov.seq ?_;refine Cov.region rfl ?_;refine Cov.q .ro (.assign rfl) rfl ?_;refine Cov.region_end ?_;refine Cov.seq ?_;refine Cov.seq ?_;refine Cov.region rfl ?_;refine Cov.q .ro (.move rfl) rfl ?_
  refine Cov.q .ro (.len_s rfl Try.underlying9) rfl ?_;refine Cov.q .ro (.move rfl) rfl ?_;refine Cov.q .ro (.move rfl) rfl ?_;refine Cov.q .ro (.mulw rfl rfl) rfl ?_;refine Cov.q .ro (.neq rfl rfl) rfl ?_;refine Cov.region_end ?_
  refine Cov.cond_dec rfl (fun c8 => ?_) (fun c8 => ?_)
  ·have r9 := ifT r7 c8; clear r7
   refine Cov.seq ?_;refine Cov.region rfl ?_;refine Cov.q .ro (.assign rfl) rfl ?_;refine Cov.q .ro (.assign rfl) rfl ?_;refine Cov.region_end ?_
   cases r9
   refine Cov.retW (c := ⟨35, none⟩) (.inr ⟨_, rfl⟩) [.tmp 4, .tmp 5] [_, _] rfl Try.func35 Try.results35 ⟨RV.tmp rfl, RV.tmp rfl, trivial⟩ (fun _ h => List.mem_cons_of_mem _ h) List.mem_cons_self B0 (by subst hS0; simp [blks]) (fun G' hg => ⟨none, 0, rfl, rfl, rfl, (SlR.mono hg (SlR.nil (Rp' := (Rep.pair Rep.str (Rep.int .i64)))))⟩)
  ·have r10 := ifF r7 c8; clear r7
   refine Cov.skip ?_;refine Cov.seq ?_;refine Cov.region rfl ?_;refine Cov.q .ro (.assign rfl) rfl ?_;refine Cov.region_end ?_;refine Cov.seq ?_;refine Cov.seq ?_;refine Cov.region rfl ?_;refine Cov.q .ro (.move rfl) rfl ?_
   refine Cov.q .ro (.move rfl) rfl ?_;refine Cov.region_end ?_;refine Cov.cutB (β := (List (ByteArray × Int)) × Option Addr × Nat × List Value) (fun y => [(7, .slice y.2.1 y.1.length y.2.2.1)]) [(0, _), (1, _)] (fun y => G :: Fs) (fun y => []) [] (fun y => [.s (.slice y.2.1 y.1.length y.2.2.1) 63 2 y.1.length y.2.2.2]) [] (fun y => OL (Rep.pair Rep.str (Rep.int .i64)) G y.2.2.2 y.1 ∧ (keyword_Decode_J1 x0 x1) y.1 = some r) ⟨rfl, rfl, trivial⟩ [] rfl [] rfl ?_ ?_
   ·intro y hI
    obtain ⟨v305, a306, k307, cs308⟩ := y
    obtain ⟨o309, r312⟩ := hI
    try dsimp only at o309 r312
    refine Cov.prune [(7, .slice a306 v305.length k307), (0, _), (1, _)] ⟨rfl, rfl, rfl, trivial⟩ ?_;refine Cov.same (bl' := []) (sl' := [.s (.slice a306 v305.length k307) 63 2 v305.length cs308]) (Fs' := G :: Fs) rfl rfl rfl ?_
    unfold keyword_Decode_J1 at r312
    try dsimp only at r312
    refine Cov.seq ?_;refine Cov.seq ?_;refine Cov.region rfl ?_;refine Cov.q .ro (.move rfl) rfl ?_;refine Cov.q .ro (.move rfl) rfl ?_
    refine Cov.freezeR 0 rfl rfl o309 [] rfl B0 (fun G315 e316 B317 s318 => ?_)
    obtain ⟨u320, hu320, r321⟩ := bind_some r312; clear r312
    refine Cov.callS (b1 := []) (b2 := []) (s1 := []) [_, _] [] .ro rfl rfl Try.call30 rfl rfl (keyword_Encode_c (G := G315) List.mem_cons_self s318 hu320) rfl (fun v323 bo so h322 => ?_)
    obtain ⟨rfl, rfl, rfl⟩ := h322
    refine Cov.same (bl' := []) (sl' := []) rfl rfl rfl ?_;refine Cov.q .ro (.move rfl) rfl ?_;refine Cov.q .ro (.extract rfl rfl) rfl ?_;refine Cov.q .ro (.extract rfl rfl) rfl ?_;refine Cov.q .ro (.assign rfl) rfl ?_;refine Cov.q .ro (.assign rfl) rfl ?_;refine Cov.region_end ?_;refine Cov.seq ?_;refine Cov.region rfl ?_
    refine Cov.q .ro (.move rfl) rfl ?_;refine Cov.q .ro (.neq rfl rfl) rfl ?_;refine Cov.q .ro (.move rfl) rfl ?_;refine Cov.cutR 4 (β := Unit) (fun y => [(80, .bool (decide ((u320.2 ≠ 0) ∨ (u320.1 ≠ x1))))]) [(7, _)] (fun y => G315 :: Fs) (fun y => []) [] (fun y => []) [] (fun y => True) ⟨rfl, trivial⟩ [] rfl [] rfl ?_ ?_
    ·rintro _ _
     refine Cov.prune [(80, .bool (decide ((u320.2 ≠ 0) ∨ (u320.1 ≠ x1)))), (7, _)] ⟨rfl, rfl, trivial⟩ ?_;refine Cov.same (bl' := []) (sl' := []) (Fs' := G315 :: Fs) rfl rfl rfl ?_;refine Cov.region_end ?_
     refine Cov.cond_dec rfl (fun c328 => ?_) (fun c328 => ?_)
     ·have r329 := ifT r321 c328; clear r321
      refine Cov.seq ?_;refine Cov.region rfl ?_;refine Cov.q .ro (.assign rfl) rfl ?_;refine Cov.q .ro (.assign rfl) rfl ?_;refine Cov.region_end ?_
      cases r329
      refine Cov.retW (c := ⟨35, none⟩) (.inr ⟨_, rfl⟩) [.tmp 4, .tmp 5] [_, _] rfl Try.func35 Try.results35 ⟨RV.tmp rfl, RV.tmp rfl, trivial⟩ (fun _ h => List.mem_cons_of_mem _ h) List.mem_cons_self B317 (by subst hS0; simp [blks]) (fun G' hg => ⟨none, 0, rfl, rfl, rfl, (SlR.mono hg (SlR.nil (Rp' := (Rep.pair Rep.str (Rep.int .i64)))))⟩)
     ·have r330 := ifF r321 c328; clear r321
      refine Cov.skip ?_;refine Cov.seq ?_;refine Cov.region rfl ?_;refine Cov.q .ro (.move rfl) rfl ?_;refine Cov.q .ro (.assign rfl) rfl ?_;refine Cov.q .ro (.assign rfl) rfl ?_;refine Cov.region_end ?_
      cases r330
      refine Cov.retW (c := ⟨35, none⟩) (.inr ⟨_, rfl⟩) [.tmp 4, .tmp 5] [_, _] rfl Try.func35 Try.results35 ⟨RV.tmp rfl, RV.tmp rfl, trivial⟩ (fun _ h => List.mem_cons_of_mem _ h) List.mem_cons_self B317 (by subst hS0; simp [blks]) (fun G' hg => ⟨a306, k307, rfl, rfl, rfl, (SlR.mono hg s318)⟩)
    ·intro hb325
     refine Cov.split 76 rfl (fun c324 => ?_) (fun c324 => ?_)
     ·refine Cov.g_off rfl rfl rfl ?_
      refine Cov.g_off rfl rfl rfl ?_;refine Cov.g_off rfl rfl rfl ?_;refine Cov.q .ro (.pick_t rfl rfl) rfl ?_
      refine Cov.prune _ ?_ (Cov.same rfl rfl rfl (hb325 () trivial))
      exact ⟨dor_t c324, rfl, trivial⟩
     ·refine Cov.g_on rfl ?_
      refine Cov.q .ro (.move rfl) rfl ?_;refine Cov.g_on rfl ?_;refine Cov.q .ro (.move rfl) rfl ?_;refine Cov.g_on rfl ?_;refine Cov.q .ro (.neq_s rfl rfl) rfl ?_;refine Cov.q .ro (.pick_f rfl rfl) rfl ?_
      refine Cov.prune _ ?_ (Cov.same rfl rfl rfl (hb325 () trivial))
      exact ⟨dor_f c324, rfl, trivial⟩
   ·intro hb331
    refine Cov.block ?_;refine Cov.own_nil 63 2 ?_
    refine Cov.loop2 (α := Nat × (List (ByteArray × Int)) × Option Addr × Nat × List Value × Int) (fun y => [(7, .slice y.2.2.1 y.2.1.length y.2.2.2.1), (25, .int .i64 y.2.2.2.2.2)]) [(0, _), (1, _), (6, _), (24, _)] (fun y => []) (fun y => []) [] (fun y => [.s (.slice y.2.2.1 y.2.1.length y.2.2.2.1) 63 2 y.2.1.length y.2.2.2.2.1]) [] (fun y => OL (Rep.pair Rep.str (Rep.int .i64)) G y.2.2.2.2.1 y.2.1 ∧ keyword_Decode_L4 (keyword_Decode_J1 x0 x1) x0 x1 y.1 y.2.1 y.2.2.2.2.2 = some r) (fun y => y.1) (big, ([] : List (ByteArray × Int)), none, 0, [], 0) ⟨(OL.nil (Rp' := (Rep.pair Rep.str (Rep.int .i64)))), r10⟩ ⟨rfl, rfl, rfl, rfl, rfl, rfl, trivial⟩ rfl rfl rfl (fun y hI hb532 => ?_)
    obtain ⟨n522, v524, a525, k526, cs527, v530⟩ := y
    obtain ⟨o528, r531⟩ := hI
    try dsimp only at o528 r531
    refine Cov.prune [(7, .slice a525 v524.length k526), (25, .int .i64 v530), (0, _), (1, _), (6, _), (24, _)] ⟨rfl, rfl, rfl, rfl, rfl, rfl, trivial⟩ ?_;refine Cov.same (bl' := []) (sl' := [.s (.slice a525 v524.length k526) 63 2 v524.length cs527]) (Fs' := G :: Fs) rfl rfl rfl ?_
    obtain ⟨m536, rfl⟩ : ∃ m, n522 = m + 1 := by cases n522 with | zero => exact absurd (show (none : Option _) = some _ from r531) (by simp) | succ m => exact ⟨m, rfl⟩
    have r535 : keyword_Decode_B4 (keyword_Decode_J1 x0 x1) x0 x1 (keyword_Decode_L4 (keyword_Decode_J1 x0 x1) x0 x1 m536) v524 v530 = some r := r531; clear r531; unfold keyword_Decode_B4 at r535; try dsimp only at r535
    refine Cov.seq ?_;refine Cov.region rfl ?_;refine Cov.q .ro (.lss rfl rfl) rfl ?_;refine Cov.region_end ?_;refine Cov.seq ?_
    refine Cov.cond_dec rfl (fun c537 => ?_) (fun c537 => ?_)
    ·have r538 := ifT r535 c537; clear r535
     refine Cov.skip ?_;refine Cov.seq ?_;refine Cov.block ?_;refine Cov.seq ?_;refine Cov.region rfl ?_;refine Cov.q .ro (.move rfl) rfl ?_;refine Cov.q .ro (.assign rfl) rfl ?_;refine Cov.region_end ?_;refine Cov.seq ?_
     refine Cov.region rfl ?_;refine Cov.q .ro (.move rfl) rfl ?_;refine Cov.q .ro (.move rfl) rfl ?_;refine Cov.q .ro (.move rfl) rfl ?_;refine Cov.q .ro (.mulw rfl rfl) rfl ?_;refine Cov.q .ro (.move rfl) rfl ?_;refine Cov.q .ro (.addw rfl rfl) rfl ?_;refine Cov.q .ro (.move rfl) rfl ?_;refine Cov.q .ro (.mulw rfl rfl) rfl ?_
     obtain ⟨u539, hu539, r540⟩ := bind_some r538; clear r538
     refine Cov.q .ro (.ssub rfl Try.underlying9 hu539 (fun h => .yes' rfl h) (fun h => .yes' rfl h)) rfl ?_;refine Cov.q .ro (.assign rfl) rfl ?_;refine Cov.region_end ?_;refine Cov.seq ?_;refine Cov.region rfl ?_;refine Cov.q .ro (.move rfl) rfl ?_
     obtain ⟨u541, hu541, r542⟩ := bind_some r540; clear r540
     refine Cov.q .ro (.sidx rfl rfl Try.underlying9 hu541) rfl ?_;refine Cov.q .ro (.convw Try.underlying5 Try.underlying3 rfl) rfl ?_;refine Cov.q .ro (.assign rfl) rfl ?_;refine Cov.region_end ?_;refine Cov.prune [(7, _), (25, _), (0, _), (1, _), (6, _), (24, _), (9, _), (10, _)] ⟨rfl, rfl, rfl, rfl, rfl, rfl, rfl, rfl, trivial⟩ ?_;refine Cov.seq ?_;refine Cov.seq ?_;refine Cov.region rfl ?_;refine Cov.q .ro (.move rfl) rfl ?_
     refine Cov.q .ro (.eql rfl rfl) rfl ?_;refine Cov.region_end ?_
     refine Cov.cond_dec rfl (fun c543 => ?_) (fun c543 => ?_)
     ·have r544 := ifT r542 c543; clear r542
      refine Cov.exit rfl ?_
      refine Cov.prune _ ?_ (Cov.same rfl rfl rfl (hb331 (v524, a525, k526, cs527) ⟨o528, r544⟩))
      exact ⟨rfl, rfl, rfl, trivial⟩
     ·have r545 := ifF r542 c543; clear r542
      refine Cov.skip ?_;refine Cov.seq ?_;refine Cov.seq ?_;refine Cov.region rfl ?_;refine Cov.q .ro (.move rfl) rfl ?_;refine Cov.q .ro (.gtr rfl rfl) rfl ?_;refine Cov.region_end ?_
      refine Cov.cond_dec rfl (fun c546 => ?_) (fun c546 => ?_)
      ·have r547 := ifT r545 c546; clear r545
       refine Cov.seq ?_;refine Cov.region rfl ?_;refine Cov.q .ro (.assign rfl) rfl ?_;refine Cov.q .ro (.assign rfl) rfl ?_;refine Cov.region_end ?_
       cases r547
       refine Cov.drop 0 1 _ [] rfl rfl ?_
       refine Cov.retW (c := ⟨35, none⟩) (.inr ⟨_, rfl⟩) [.tmp 4, .tmp 5] [_, _] rfl Try.func35 Try.results35 ⟨RV.tmp rfl, RV.tmp rfl, trivial⟩ (fun _ h => List.mem_cons_of_mem _ h) List.mem_cons_self B0 (by subst hS0; simp [blks]) (fun G' hg => ⟨none, 0, rfl, rfl, rfl, (SlR.mono hg (SlR.nil (Rp' := (Rep.pair Rep.str (Rep.int .i64)))))⟩)
      ·have r548 := ifF r545 c546; clear r545
       refine Cov.skip ?_;refine Cov.seq ?_;refine Cov.region rfl ?_;refine Cov.q .ro (.move rfl) rfl ?_;refine Cov.q .ro (.move rfl) rfl ?_;refine Cov.q .ro (.addw rfl rfl) rfl ?_
       obtain ⟨u549, hu549, r550⟩ := bind_some r548; clear r548
       refine Cov.q .ro (.ssub rfl Try.underlying9 hu549 (fun h => .yes' rfl h) (fun h => .yes' rfl h)) rfl ?_;refine Cov.q .ro (.build [_, _] [(0, _)] ty63 pl63 rfl rfl) rfl ?_
       refine Cov.alloc .ro ty63 rfl (fun b551 hb551 => ?_)
       refine Cov.store 0 [_, _] [_] .ro rfl rfl rfl ty63 rfl rfl rfl rfl ?_;refine Cov.region_end ?_;refine Cov.seq ?_;refine Cov.seq ?_;refine Cov.region rfl ?_;refine Cov.q .ro (.assign rfl) rfl ?_;refine Cov.region_end ?_;refine Cov.cutB (β := ByteArray × Int) (fun y => []) [(7, _), (25, _), (0, _), (1, _), (6, _), (24, _), (11, _)] (fun y => G :: Fs) (fun y => [(b551, .cells #[.string y.1, .int .i64 y.2] 63 (0, 0))]) [] (fun y => []) [_] (fun y => (keyword_Decode_J2 (keyword_Decode_L4 (keyword_Decode_J1 x0 x1) x0 x1 m536) v530 v524) y.1 y.2 = some r) ⟨rfl, rfl, rfl, rfl, rfl, rfl, rfl, trivial⟩ [] rfl [0] rfl ?_ ?_
       ·intro y hI
        obtain ⟨v580, v581⟩ := y
        have r583 := hI; clear hI
        try dsimp only at r583
        refine Cov.prune [(7, _), (25, _), (0, _), (1, _), (6, _), (24, _), (11, _)] ⟨rfl, rfl, rfl, rfl, rfl, rfl, rfl, trivial⟩ ?_;refine Cov.same (bl' := [(b551, .cells #[.string v580, .int .i64 v581] 63 (0, 0))]) (sl' := [_]) (Fs' := G :: Fs) rfl rfl rfl ?_
        unfold keyword_Decode_J2 at r583
        try dsimp only at r583
        refine Cov.region rfl ?_;refine Cov.q .ro (.move rfl) rfl ?_;refine Cov.q .ro (.load_own_a 0 [_, _] rfl rfl ty63 rfl) rfl ?_
        refine Cov.lit [_, _] [(0, _)] .ro sl32 ty63 rfl rfl rfl rfl rfl rfl (fun b588 hb588 => ?_)
        have o589 : OL (Rep.pair Rep.str (Rep.int .i64)) G [.string v580, .int .i64 v581] ([(v580, v581)] : List (ByteArray × Int)) := ((OL.cons rfl (Rep.pairI (Rep.strI v580) (Rep.intI .i64 v581)) (OL.nil (Rp' := (Rep.pair Rep.str (Rep.int .i64))))) :)
        refine Cov.reval 65 (n' := ([(v580, v581)] : List (ByteArray × Int)).length) rfl rfl ?_
        obtain ⟨u595, hu595, r596⟩ := bind_some r583; clear r583
        refine Cov.appO (Q := (Rep.pair Rep.str (Rep.int .i64))) 0 .ro sl32 ty63 rfl rfl rfl rfl rfl rfl o528 o589 rfl rfl rfl B0 hu595 rfl (fun a591 k592 cs593 o594 => ?_)
        refine Cov.q .ro (.assign rfl) rfl ?_;refine Cov.region_end ?_;refine Cov.inBlock ?_;refine Cov.region rfl ?_;refine Cov.q .ro (.addw rfl rfl) rfl ?_;refine Cov.q .ro (.move rfl) rfl ?_;refine Cov.region_end ?_;refine Cov.drop 1 0 [] _ rfl rfl ?_
        refine Cov.prune _ ?_ (Cov.same rfl rfl rfl (hb532 (m536, u595, a591, k592, cs593, (w64 (v530 + 1))) ⟨o594, r596⟩ (Nat.lt_succ_self _)))
        exact ⟨rfl, rfl, rfl, rfl, rfl, rfl, trivial⟩
       ·intro hb598
        refine Cov.block ?_
        refine Cov.loop2 (α := Nat × Int × Int) (fun y => [(12, .int .i64 y.2.1)]) [(7, _), (25, _), (0, _), (1, _), (6, _), (24, _), (9, _), (11, _)] (fun y => []) (fun y => [(b551, .cells #[.string u549, .int .i64 y.2.2] 63 (0, 0))]) [] (fun y => []) [_] (fun y => keyword_Decode_L3 (keyword_Decode_J2 (keyword_Decode_L4 (keyword_Decode_J1 x0 x1) x0 x1 m536) v530 v524) u539 u549 y.1 y.2.1 y.2.2 = some r) (fun y => y.1) (big, 3, 0) r550 ⟨rfl, rfl, rfl, rfl, rfl, rfl, rfl, rfl, rfl, trivial⟩ rfl rfl rfl (fun y hI hb613 => ?_)
        obtain ⟨n608, v610, v611⟩ := y
        have r612 := hI; clear hI
        try dsimp only at r612
        refine Cov.prune [(12, .int .i64 v610), (7, _), (25, _), (0, _), (1, _), (6, _), (24, _), (9, _), (11, _)] ⟨rfl, rfl, rfl, rfl, rfl, rfl, rfl, rfl, rfl, trivial⟩ ?_;refine Cov.same (bl' := [(b551, .cells #[.string u549, .int .i64 v611] 63 (0, 0))]) (sl' := [_]) (Fs' := G :: Fs) rfl rfl rfl ?_
        obtain ⟨m621, rfl⟩ : ∃ m, n608 = m + 1 := by cases n608 with | zero => exact absurd (show (none : Option _) = some _ from r612) (by simp) | succ m => exact ⟨m, rfl⟩
        have r620 : keyword_Decode_B3 (keyword_Decode_J2 (keyword_Decode_L4 (keyword_Decode_J1 x0 x1) x0 x1 m536) v530 v524) u539 u549 (keyword_Decode_L3 (keyword_Decode_J2 (keyword_Decode_L4 (keyword_Decode_J1 x0 x1) x0 x1 m536) v530 v524) u539 u549 m621) v610 v611 = some r := r612; clear r612; unfold keyword_Decode_B3 at r620; try dsimp only at r620
        refine Cov.seq ?_;refine Cov.seq ?_;refine Cov.region rfl ?_;refine Cov.q .ro (.move rfl) rfl ?_;refine Cov.q .ro (.geq rfl rfl) rfl ?_;refine Cov.region_end ?_
        refine Cov.cond_dec rfl (fun c622 => ?_) (fun c622 => ?_)
        ·have r623 := ifT r620 c622; clear r620
         refine Cov.skip ?_;refine Cov.seq ?_;refine Cov.block ?_;refine Cov.drawL (.q 0 (.q 1 (.q 2 (.q 3 (.q 4 (.q 5 (.q 6 (.q 7 (.q 8 (.q 9 (.e 10 2 .nil))))))))))) [_] (by kernel_rfl) (by kernel_rfl) (pick_mem [0] rfl) ?_;refine Cov.dq (.fieldAddr 1 rfl fl63_1 ty3.sz rfl) rfl ?_;refine Cov.dq (.load_own 0 rfl rfl ty3 rfl) rfl ?_;refine Cov.dq (.shlw rfl rfl (by decide)) rfl ?_;refine Cov.dq (.move rfl) rfl ?_;refine Cov.dq (.move rfl) rfl ?_
         refine Cov.dq (.addw rfl rfl) rfl ?_
         obtain ⟨u624, hu624, r625⟩ := bind_some r623; clear r623
         refine Cov.dq (.sidx rfl rfl Try.underlying9 hu624) rfl ?_;refine Cov.dq (.convw Try.underlying5 Try.underlying3 rfl) rfl ?_;refine Cov.dq (.orw rfl rfl) rfl ?_;refine Cov.dq (.fieldAddr 1 rfl fl63_1 ty3.sz rfl) rfl ?_;refine Cov.store 0 [_, _] [_] .d2 rfl rfl rfl ty3 rfl rfl rfl rfl ?_;refine Cov.draw_end ?_;refine Cov.inBlock ?_;refine Cov.region rfl ?_;refine Cov.q .ro (.move rfl) rfl ?_
         refine Cov.q .ro (.subw rfl rfl) rfl ?_;refine Cov.q .ro (.assign rfl) rfl ?_;refine Cov.region_end ?_;refine Cov.prune [(12, _), (7, _), (25, _), (0, _), (1, _), (6, _), (24, _), (9, _), (11, _)] ⟨rfl, rfl, rfl, rfl, rfl, rfl, rfl, rfl, rfl, trivial⟩ ?_
         refine Cov.prune _ ?_ (Cov.same rfl rfl rfl (hb613 (m621, (w64 (v610 - 1)), (orI .i64 (shlI .i64 v611 8) (w64 u624))) r625 (Nat.lt_succ_self _)))
         exact ⟨rfl, rfl, rfl, rfl, rfl, rfl, rfl, rfl, rfl, trivial⟩
        ·have r626 := ifF r620 c622; clear r620
         refine Cov.exit rfl ?_
         refine Cov.prune _ ?_ (Cov.same rfl rfl rfl (hb598 (u549, v611) r626))
         exact ⟨rfl, rfl, rfl, rfl, rfl, rfl, rfl, trivial⟩
    ·have r627 := ifF r535 c537; clear r535
     refine Cov.exit rfl ?_
     refine Cov.prune _ ?_ (Cov.same rfl rfl rfl (hb331 (v524, a525, k526, cs527) ⟨o528, r627⟩))
     exact ⟨rfl, rfl, rfl, trivial⟩
set_option maxHeartbeats 4000000 in
set_option maxRecDepth 100000 in
theorem keyword_Pick_c {Fs : List Hp} {G : Hp} {x0 : ByteArray} {a1 : Option Addr} {k1 : Nat} {x1 : List (List (ByteArray × Int))} {r : (Int × Bool × Int)} (hG : G ∈ Fs) (s1 : SlR (Rep.sl (Rep.pair Rep.str (Rep.int .i64))) G a1 k1 x1) (h : keyword_Pick x0 x1 = some r) : RetS Try.prog 36 #[.string x0, .slice a1 x1.length k1] Fs [] [] (fun v bo so => v = .tuple #[.int .i64 r.1, .bool r.2.1, .int .i64 r.2.2] ∧ bo = [] ∧ so = []) := by
 unfold keyword_Pick at h
 try dsimp only at h
 refine RetS.of (vs := [_, _]) Try.func36 rfl Try.ntmps36 [(0, _), (1, _)] ⟨rfl, rfl, trivial⟩ rfl hG fun w0 S0 hS0 B0 => ?_
 refine Cov.seq ?_;refine Cov.region rfl ?_;refine Cov.q .ro (.assign rfl) rfl ?_;refine Cov.q .ro (.assign rfl) rfl ?_;refine Cov.q .ro (.assign rfl) rfl ?_;refine Cov.region_end ?_;refine Cov.seq ?_;refine Cov.seq ?_;refine Cov.region rfl ?_
 refine Cov.q .ro (.move rfl) rfl ?_
 obtain ⟨u1, hu1, r2⟩ := bind_some h; clear h
 refine Cov.callS (b1 := []) (b2 := []) (s1 := []) [_] [] .ro rfl rfl Try.call42 rfl rfl (keyword_proper_c (G := G) List.mem_cons_self  hu1) rfl (fun v4 bo so h3 => ?_)
 obtain ⟨rfl, rfl, rfl⟩ := h3
 refine Cov.same (bl' := []) (sl' := []) rfl rfl rfl ?_;refine Cov.q .ro (.not rfl) rfl ?_;refine Cov.region_end ?_
 refine Cov.cond rfl (fun c5 => ?_) (fun c5 => ?_)
 ·have r6 := ifT r2 c5; clear r2
  refine Cov.seq ?_;refine Cov.region rfl ?_;refine Cov.q .ro (.assign rfl) rfl ?_;refine Cov.q .ro (.assign rfl) rfl ?_;refine Cov.q .ro (.assign rfl) rfl ?_;refine Cov.region_end ?_
  cases r6
  refine Cov.retS (c := ⟨36, none⟩) (.inr ⟨_, rfl⟩) [.tmp 4, .tmp 5, .tmp 6] [_, _, _] rfl Try.func36 Try.results36 ⟨RV.tmp rfl, RV.tmp rfl, RV.tmp rfl, trivial⟩ (fun _ h => List.mem_cons_of_mem _ h) ⟨rfl, rfl, rfl⟩
 ·have r7 := ifBF r2 c5; clear r2
  refine Cov.skip ?_;refine Cov.seq ?_;refine Cov.seq ?_;refine Cov.region rfl ?_;refine Cov.q .ro (.move rfl) rfl ?_;refine Cov.q .ro (.len_sl rfl rfl sl29) rfl ?_;refine Cov.q .ro (.move rfl) rfl ?_;refine Cov.region_end ?_;refine Cov.block ?_
  refine Cov.loop2 (α := Nat × (List (List (ByteArray × Int)))) (fun y => [(16, .int .i64 (y.1 : Int))]) [(0, _), (14, _), (15, _)] (fun y => []) (fun y => []) [] (fun y => []) [] (fun y => List.drop y.1 x1 = y.2 ∧ keyword_Pick_L2 x0 y.2  = some r) (fun y => y.2.length) (0, x1) ⟨rfl, r7⟩ ⟨rfl, rfl, rfl, rfl, trivial⟩ rfl rfl rfl (fun y hI hb61 => ?_)
  obtain ⟨i57, w58⟩ := y
  obtain ⟨g59, r60⟩ := hI
  try dsimp only at g59 r60
  refine Cov.prune [(16, .int .i64 (i57 : Int)), (0, _), (14, _), (15, _)] ⟨rfl, rfl, rfl, rfl, trivial⟩ ?_;refine Cov.same (bl' := []) (sl' := []) (Fs' := G :: Fs) rfl rfl rfl ?_
  cases w58 with
  | nil =>
   rw [keyword_Pick_L2] at r60; try dsimp only at r60
   refine Cov.seq ?_;refine Cov.region rfl ?_;refine Cov.q .ro (.lss rfl rfl) rfl ?_;refine Cov.region_end ?_;refine Cov.seq ?_
   refine Cov.cond_dec rfl (fun c => absurd c (drop_nil g59)) (fun _ => ?_)
   refine Cov.exit rfl ?_;refine Cov.seq ?_;refine Cov.region rfl ?_;refine Cov.q .ro (.assign rfl) rfl ?_;refine Cov.q .ro (.assign rfl) rfl ?_;refine Cov.q .ro (.assign rfl) rfl ?_;refine Cov.region_end ?_
   cases r60
   refine Cov.retS (c := ⟨36, none⟩) (.inr ⟨_, rfl⟩) [.tmp 4, .tmp 5, .tmp 6] [_, _, _] rfl Try.func36 Try.results36 ⟨RV.tmp rfl, RV.tmp rfl, RV.tmp rfl, trivial⟩ (fun _ h => List.mem_cons_of_mem _ h) ⟨rfl, rfl, rfl⟩
  | cons x66 xs67 =>
   have r65 : keyword_Pick_B2 x0 (keyword_Pick_L2 x0 xs67) x66  = some r := r60; clear r60; unfold keyword_Pick_B2 at r65; try dsimp only at r65
   refine Cov.seq ?_;refine Cov.region rfl ?_;refine Cov.q .ro (.lss rfl rfl) rfl ?_;refine Cov.region_end ?_;refine Cov.seq ?_
   refine Cov.cond_dec rfl (fun _ => ?_) (fun c => absurd (drop_lt g59) c)
   refine Cov.skip ?_;refine Cov.seq ?_;refine Cov.block ?_;refine Cov.seq ?_;refine Cov.region rfl ?_
   obtain ⟨c68, p69, h70⟩ := SlR.get s1 (drop_idx g59)
   obtain ⟨a71, k72, rfl, s73⟩ := h70
   refine Cov.q .ro (.idxR s1 rfl rfl (drop_idx g59) sl29 ty32.sz) rfl ?_;refine Cov.q .ro (.load_rp p69 List.mem_cons_self rfl ty32 rfl) rfl ?_;refine Cov.q .ro (.assign rfl) rfl ?_;refine Cov.region_end ?_;refine Cov.seq ?_;refine Cov.region rfl ?_;refine Cov.q .ro (.move rfl) rfl ?_;refine Cov.q .ro (.len_sl rfl rfl sl32) rfl ?_;refine Cov.q .ro (.move rfl) rfl ?_
   refine Cov.region_end ?_;refine Cov.block ?_
   refine Cov.loop2 (α := Nat × (List (ByteArray × Int))) (fun y => [(22, .int .i64 (y.1 : Int))]) [(16, _), (0, _), (14, _), (15, _), (20, _), (21, _)] (fun y => []) (fun y => []) [] (fun y => []) [] (fun y => List.drop y.1 x66 = y.2 ∧ keyword_Pick_L1 (keyword_Pick_L2 x0 xs67) x0 y.2  = some r) (fun y => y.2.length) (0, x66) ⟨rfl, r65⟩ ⟨rfl, rfl, rfl, rfl, rfl, rfl, rfl, trivial⟩ rfl rfl rfl (fun y hI hb93 => ?_)
   obtain ⟨i89, w90⟩ := y
   obtain ⟨g91, r92⟩ := hI
   try dsimp only at g91 r92
   refine Cov.prune [(22, .int .i64 (i89 : Int)), (16, _), (0, _), (14, _), (15, _), (20, _), (21, _)] ⟨rfl, rfl, rfl, rfl, rfl, rfl, rfl, trivial⟩ ?_;refine Cov.same (bl' := []) (sl' := []) (Fs' := G :: Fs) rfl rfl rfl ?_
   cases w90 with
   | nil =>
    rw [keyword_Pick_L1] at r92; try dsimp only at r92
    refine Cov.seq ?_;refine Cov.region rfl ?_;refine Cov.q .ro (.lss rfl rfl) rfl ?_;refine Cov.region_end ?_;refine Cov.seq ?_
    refine Cov.cond_dec rfl (fun c => absurd c (drop_nil g91)) (fun _ => ?_)
    refine Cov.exit rfl ?_;refine Cov.inBlock ?_;refine Cov.region rfl ?_;refine Cov.q .ro (.addw rfl rfl) rfl ?_;refine Cov.q .ro (.move rfl) rfl ?_;refine Cov.region_end ?_
    refine Cov.prune _ ?_ (Cov.same rfl rfl rfl (hb61 ((i57 + 1), xs67) ⟨(drop_succ g59), r92⟩ (Nat.lt_succ_self _)))
    exact ⟨(congrArg (fun z => some (Value.int .i64 z)) (idx_wrap (SlR.len s1) g59)), rfl, rfl, rfl, trivial⟩
   | cons x101 xs102 =>
    have r100 : keyword_Pick_B1 (keyword_Pick_L2 x0 xs67) x0 (keyword_Pick_L1 (keyword_Pick_L2 x0 xs67) x0 xs102) x101  = some r := r92; clear r92; unfold keyword_Pick_B1 at r100; try dsimp only at r100
    refine Cov.seq ?_;refine Cov.region rfl ?_;refine Cov.q .ro (.lss rfl rfl) rfl ?_;refine Cov.region_end ?_;refine Cov.seq ?_
    refine Cov.cond_dec rfl (fun _ => ?_) (fun c => absurd (drop_lt g91) c)
    refine Cov.skip ?_;refine Cov.seq ?_;refine Cov.block ?_;refine Cov.seq ?_;refine Cov.region rfl ?_
    obtain ⟨c103, p104, h105⟩ := SlR.get s73 (drop_idx g91)
    obtain ⟨_, _, rfl, rfl, rfl⟩ := h105
    refine Cov.q .ro (.idxR s73 rfl rfl (drop_idx g91) sl32 ty63.sz) rfl ?_;refine Cov.q .ro (.load_rp_a [_, _] p104 List.mem_cons_self rfl ty63 rfl) rfl ?_
    refine Cov.alloc .ro ty63 rfl (fun b106 hb106 => ?_)
    refine Cov.store 0 [_, _] [_] .ro rfl rfl rfl ty63 rfl rfl rfl rfl ?_;refine Cov.region_end ?_;refine Cov.seq ?_;refine Cov.region rfl ?_;refine Cov.q .ro (.fieldAddr 0 rfl fl63_0 ty9.sz rfl) rfl ?_;refine Cov.q .ro (.load_own 0 rfl rfl ty9 rfl) rfl ?_;refine Cov.q .ro (.move rfl) rfl ?_;refine Cov.q .ro (.eql_s rfl rfl) rfl ?_;refine Cov.region_end ?_
    refine Cov.cond_dec rfl (fun c107 => ?_) (fun c107 => ?_)
    ·have r108 := ifT r100 c107; clear r100
     refine Cov.seq ?_;refine Cov.region rfl ?_;refine Cov.q .ro (.fieldAddr 1 rfl fl63_1 ty3.sz rfl) rfl ?_;refine Cov.q .ro (.load_own 0 rfl rfl ty3 rfl) rfl ?_;refine Cov.q .ro (.assign rfl) rfl ?_;refine Cov.q .ro (.assign rfl) rfl ?_;refine Cov.q .ro (.assign rfl) rfl ?_;refine Cov.region_end ?_;refine Cov.prune [(4, _), (5, _), (6, _)] ⟨rfl, rfl, rfl, trivial⟩ ?_
     cases r108
     refine Cov.drop 1 0 [] _ rfl rfl ?_
     refine Cov.retS (c := ⟨36, none⟩) (.inr ⟨_, rfl⟩) [.tmp 4, .tmp 5, .tmp 6] [_, _, _] rfl Try.func36 Try.results36 ⟨RV.tmp rfl, RV.tmp rfl, RV.tmp rfl, trivial⟩ (fun _ h => List.mem_cons_of_mem _ h) ⟨rfl, rfl, rfl⟩
    ·have r109 := ifF r100 c107; clear r100
     refine Cov.skip ?_;refine Cov.inBlock ?_;refine Cov.region rfl ?_;refine Cov.q .ro (.addw rfl rfl) rfl ?_;refine Cov.q .ro (.move rfl) rfl ?_;refine Cov.region_end ?_;refine Cov.drop 1 0 [] _ rfl rfl ?_
     refine Cov.prune _ ?_ (Cov.same rfl rfl rfl (hb93 ((i89 + 1), xs102) ⟨(drop_succ g91), r109⟩ (Nat.lt_succ_self _)))
     exact ⟨(congrArg (fun z => some (Value.int .i64 z)) (idx_wrap (SlR.len s73) g91)), rfl, rfl, rfl, rfl, rfl, rfl, trivial⟩
set_option maxHeartbeats 4000000 in
set_option maxRecDepth 100000 in
theorem lookup_Read_c {Fs : List Hp} {G : Hp} {x0 : Int} {x1 : ByteArray} {a2 : Option Addr} {k2 : Nat} {x2 : List (Int × (List Int) × (List Int))} {r : (Int × Bool × Int)} (hG : G ∈ Fs) (s2 : SlR (Rep.pair (Rep.int .i64) (Rep.pair (Rep.sl (Rep.int .i64)) (Rep.sl (Rep.int .i64)))) G a2 k2 x2) (h : lookup_Read x0 x1 x2 = some r) : RetS Try.prog 18 #[.int .i64 x0, .string x1, .slice a2 x2.length k2] Fs [] [] (fun v bo so => v = .tuple #[.int .i64 r.1, .bool r.2.1, .int .i64 r.2.2] ∧ bo = [] ∧ so = []) := by
 unfold lookup_Read at h
 try dsimp only at h
 refine RetS.of (vs := [_, _, _]) Try.func18 rfl Try.ntmps18 [(0, _), (1, _), (2, _)] ⟨rfl, rfl, rfl, trivial⟩ rfl hG fun w0 S0 hS0 B0 => ?_
 refine Cov.seq ?_;refine Cov.region rfl ?_;refine Cov.q .ro (.assign rfl) rfl ?_;refine Cov.q .ro (.assign rfl) rfl ?_;refine Cov.q .ro (.assign rfl) rfl ?_;refine Cov.region_end ?_;refine Cov.seq ?_;refine Cov.seq ?_;refine Cov.region rfl ?_
 refine Cov.q .ro (.move rfl) rfl ?_;refine Cov.q .ro (.len_sl rfl rfl sl68) rfl ?_;refine Cov.q .ro (.move rfl) rfl ?_;refine Cov.region_end ?_;refine Cov.cutB (β := Unit) (fun y => []) [(0, _), (1, _), (2, _)] (fun y => G :: Fs) (fun y => []) [] (fun y => []) [] (fun y => (lookup_Read_J5 x0 x1 x2)  = some r) ⟨rfl, rfl, rfl, trivial⟩ [] rfl [] rfl ?_ ?_
 ·intro _ hI
  have r48 := hI; clear hI
  refine Cov.prune [(0, _), (1, _), (2, _)] ⟨rfl, rfl, rfl, trivial⟩ ?_;refine Cov.same (bl' := []) (sl' := []) (Fs' := G :: Fs) rfl rfl rfl ?_
  unfold lookup_Read_J5 at r48
  try dsimp only at r48
  refine Cov.seq ?_;refine Cov.region rfl ?_;refine Cov.q .ro (.move rfl) rfl ?_;refine Cov.q .ro (.len_sl rfl rfl sl68) rfl ?_
  obtain ⟨u52, hu52, r53⟩ := bind_some r48; clear r48
  refine Cov.makeR (G := G) (Q := Rep.str) .ro sl35 ty9 rfl rfl rfl ((Rep.strI ByteArray.empty) :) rfl rfl hu52 rfl rfl (fun b54 cs55 hb54 o56 => ?_)
  refine Cov.q .ro (.assign rfl) rfl ?_;refine Cov.region_end ?_;refine Cov.seq ?_;refine Cov.seq ?_;refine Cov.region rfl ?_;refine Cov.q .ro (.move rfl) rfl ?_;refine Cov.q .ro (.len_sl rfl rfl sl68) rfl ?_;refine Cov.q .ro (.move rfl) rfl ?_;refine Cov.region_end ?_
  refine Cov.cutB (β := List ByteArray × Option Addr × Nat × List Value) (fun y => [(11, .slice y.2.1 y.1.length y.2.2.1)]) [(0, _), (1, _)] (fun y => G :: Fs) (fun y => []) [] (fun y => [.s (.slice y.2.1 y.1.length y.2.2.1) 9 1 y.1.length y.2.2.2]) [] (fun y => OL Rep.str G y.2.2.2 y.1 ∧ (lookup_Read_J3 x0 x1) y.1 = some r) ⟨rfl, rfl, trivial⟩ [] rfl [] rfl ?_ ?_
  ·intro y hI
   obtain ⟨v138, a139, k140, cs141⟩ := y
   obtain ⟨o142, r145⟩ := hI
   try dsimp only at o142 r145
   refine Cov.prune [(11, .slice a139 v138.length k140), (0, _), (1, _)] ⟨rfl, rfl, rfl, trivial⟩ ?_;refine Cov.same (bl' := []) (sl' := [.s (.slice a139 v138.length k140) 9 1 v138.length cs141]) (Fs' := G :: Fs) rfl rfl rfl ?_
   unfold lookup_Read_J3 at r145
   try dsimp only at r145
   refine Cov.seq ?_;refine Cov.region rfl ?_;refine Cov.q .ro (.assign rfl) rfl ?_;refine Cov.region_end ?_;refine Cov.seq ?_;refine Cov.seq ?_;refine Cov.region rfl ?_;refine Cov.q .ro (.move rfl) rfl ?_;refine Cov.q .ro (.len_sl rfl rfl sl35) rfl ?_
   refine Cov.q .ro (.move rfl) rfl ?_;refine Cov.region_end ?_;refine Cov.cutB (β := Hp × (List (List (ByteArray × Int))) × Option Addr × Nat × List Value) (fun y => [(16, .slice y.2.2.1 y.2.1.length y.2.2.2.1)]) [(1, _)] (fun y => y.1 :: Fs) (fun y => []) [] (fun y => [.s (.slice y.2.2.1 y.2.1.length y.2.2.2.1) 32 1 y.2.1.length y.2.2.2.2]) [_] (fun y => HpLe G y.1 ∧ Bd w0 S0 Fs y.1 ∧ OL (Rep.sl (Rep.pair Rep.str (Rep.int .i64))) y.1 y.2.2.2.2 y.2.1 ∧ (lookup_Read_J1 x1) y.2.1 = some r) ⟨rfl, trivial⟩ [] rfl [0] rfl ?_ ?_
   ·intro y hI
    obtain ⟨G270, v274, a275, k276, cs277⟩ := y
    obtain ⟨e271, B272, o278, r281⟩ := hI
    try dsimp only at e271 B272 o278 r281
    refine Cov.prune [(16, .slice a275 v274.length k276), (1, _)] ⟨rfl, rfl, trivial⟩ ?_;refine Cov.same (bl' := []) (sl' := [.s (.slice a275 v274.length k276) 32 1 v274.length cs277, _]) (Fs' := G270 :: Fs) rfl rfl rfl ?_
    unfold lookup_Read_J1 at r281
    try dsimp only at r281
    refine Cov.seq ?_;refine Cov.region rfl ?_;refine Cov.q .ro (.move rfl) rfl ?_;refine Cov.q .ro (.move rfl) rfl ?_
    refine Cov.freezeR 0 rfl rfl o278 [_] rfl B272 (fun G284 e285 B286 s287 => ?_)
    obtain ⟨u289, hu289, r290⟩ := bind_some r281; clear r281
    refine Cov.callS (b1 := []) (b2 := []) (s1 := []) [_, _] [] .ro rfl rfl Try.call36 rfl rfl (keyword_Pick_c (G := G284) List.mem_cons_self s287 hu289) rfl (fun v292 bo so h291 => ?_)
    obtain ⟨rfl, rfl, rfl⟩ := h291
    refine Cov.same (bl' := []) (sl' := [_]) rfl rfl rfl ?_;refine Cov.q .ro (.extract rfl rfl) rfl ?_;refine Cov.q .ro (.extract rfl rfl) rfl ?_;refine Cov.q .ro (.extract rfl rfl) rfl ?_;refine Cov.q .ro (.assign rfl) rfl ?_;refine Cov.q .ro (.assign rfl) rfl ?_;refine Cov.q .ro (.assign rfl) rfl ?_;refine Cov.region_end ?_
    cases r290
    refine Cov.drop 0 1 _ [] rfl rfl ?_
    refine Cov.retS (c := ⟨18, none⟩) (.inr ⟨_, rfl⟩) [.tmp 6, .tmp 7, .tmp 8] [_, _, _] rfl Try.func18 Try.results18 ⟨RV.tmp rfl, RV.tmp rfl, RV.tmp rfl, trivial⟩ (fun _ h => List.mem_cons_of_mem _ h) ⟨rfl, rfl, rfl⟩
   ·intro hb293
    refine Cov.block ?_;refine Cov.own_nil 32 1 ?_
    refine Cov.loop2 (α := Nat × List ByteArray × Hp × (List (List (ByteArray × Int))) × Option Addr × Nat × List Value) (fun y => [(16, .slice y.2.2.2.2.1 y.2.2.2.1.length y.2.2.2.2.2.1), (58, .int .i64 (y.1 : Int))]) [(0, _), (1, _), (56, _), (57, _)] (fun y => [y.2.2.1]) (fun y => []) [] (fun y => [.s (.slice y.2.2.2.2.1 y.2.2.2.1.length y.2.2.2.2.2.1) 32 1 y.2.2.2.1.length y.2.2.2.2.2.2]) [_] (fun y => HpLe G y.2.2.1 ∧ Bd w0 S0 Fs y.2.2.1 ∧ OL (Rep.sl (Rep.pair Rep.str (Rep.int .i64))) y.2.2.1 y.2.2.2.2.2.2 y.2.2.2.1 ∧ List.drop y.1 v138 = y.2.1 ∧ lookup_Read_L2 (lookup_Read_J1 x1) x0 y.2.1 y.2.2.2.1 = some r) (fun y => y.2.1.length) (0, v138, G, ([] : List (List (ByteArray × Int))), none, 0, []) ⟨(HpLe.refl _), B0, (OL.nil (Rp' := (Rep.sl (Rep.pair Rep.str (Rep.int .i64))))), rfl, r145⟩ ⟨rfl, rfl, rfl, rfl, rfl, rfl, trivial⟩ rfl rfl rfl (fun y hI hb382 => ?_)
    obtain ⟨i368, w369, G371, v375, a376, k377, cs378⟩ := y
    obtain ⟨e372, B373, o379, g370, r381⟩ := hI
    try dsimp only at e372 B373 o379 g370 r381
    refine Cov.prune [(16, .slice a376 v375.length k377), (58, .int .i64 (i368 : Int)), (0, _), (1, _), (56, _), (57, _)] ⟨rfl, rfl, rfl, rfl, rfl, rfl, trivial⟩ ?_;refine Cov.same (bl' := []) (sl' := [.s (.slice a376 v375.length k377) 32 1 v375.length cs378, _]) (Fs' := G371 :: Fs) rfl rfl rfl ?_
    cases w369 with
    | nil =>
     rw [lookup_Read_L2] at r381; try dsimp only at r381
     refine Cov.seq ?_;refine Cov.region rfl ?_;refine Cov.q .ro (.lss rfl rfl) rfl ?_;refine Cov.region_end ?_;refine Cov.seq ?_
     refine Cov.cond_dec rfl (fun c => absurd c (drop_nil g370)) (fun _ => ?_)
     refine Cov.exit rfl ?_
     refine Cov.prune _ ?_ (Cov.same rfl rfl rfl (hb293 (G371, v375, a376, k377, cs378) ⟨e372, B373, o379, r381⟩))
     exact ⟨rfl, rfl, trivial⟩
    | cons x388 xs389 =>
     have r387 : lookup_Read_B2 (lookup_Read_J1 x1) x0 (lookup_Read_L2 (lookup_Read_J1 x1) x0 xs389) x388 v375 = some r := r381; clear r381; unfold lookup_Read_B2 at r387; try dsimp only at r387
     refine Cov.seq ?_;refine Cov.region rfl ?_;refine Cov.q .ro (.lss rfl rfl) rfl ?_;refine Cov.region_end ?_;refine Cov.seq ?_
     refine Cov.cond_dec rfl (fun _ => ?_) (fun c => absurd (drop_lt g370) c)
     refine Cov.skip ?_;refine Cov.seq ?_;refine Cov.block ?_;refine Cov.seq ?_;refine Cov.region rfl ?_
     obtain ⟨c390, p391, h392⟩ := OL.get (OL.mono e372 o142) (drop_idx g370)
     obtain rfl := h392
     refine Cov.q .ro (.idxO 1 rfl rfl rfl (drop_idx g370) sl35 ty9.sz) rfl ?_;refine Cov.q .ro (.loadO 1 0 rfl (drop_idx g370) p391 rfl (.inl ⟨rfl, rfl⟩) ty9 rfl) rfl ?_;refine Cov.q .ro (.assign rfl) rfl ?_;refine Cov.region_end ?_;refine Cov.seq ?_;refine Cov.region rfl ?_;refine Cov.q .ro (.move rfl) rfl ?_;refine Cov.q .ro (.move rfl) rfl ?_
     obtain ⟨u393, hu393, r394⟩ := bind_some r387; clear r387
     refine Cov.callW (b1 := []) (b2 := []) (s1 := []) [_, _] [] .ro rfl rfl Try.call35 rfl rfl (keyword_Decode_c (G := G371) List.mem_cons_self  hu393) rfl B373 (fun v396 bo so G397 e398 B399 h395 => ?_)
     obtain ⟨a401, k402, rfl, rfl, rfl, s403⟩ := h395
     refine Cov.same (bl' := []) (sl' := [_, _]) rfl rfl rfl ?_;refine Cov.q .ro (.move rfl) rfl ?_;refine Cov.q .ro (.extract rfl rfl) rfl ?_;refine Cov.q .ro (.extract rfl rfl) rfl ?_;refine Cov.q .ro (.assign rfl) rfl ?_;refine Cov.q .ro (.assign rfl) rfl ?_;refine Cov.region_end ?_;refine Cov.seq ?_;refine Cov.seq ?_
     refine Cov.region rfl ?_;refine Cov.q .ro (.move rfl) rfl ?_;refine Cov.q .ro (.neq rfl rfl) rfl ?_;refine Cov.region_end ?_
     refine Cov.cond_dec rfl (fun c404 => ?_) (fun c404 => ?_)
     ·have r405 := ifT r394 c404; clear r394
      refine Cov.seq ?_;refine Cov.region rfl ?_;refine Cov.q .ro (.move rfl) rfl ?_;refine Cov.q .ro (.assign rfl) rfl ?_;refine Cov.q .ro (.assign rfl) rfl ?_;refine Cov.q .ro (.assign rfl) rfl ?_;refine Cov.region_end ?_;refine Cov.prune [(6, _), (7, _), (8, _)] ⟨rfl, rfl, rfl, trivial⟩ ?_
      cases r405
      refine Cov.drop 0 2 _ [] rfl rfl ?_
      refine Cov.retS (c := ⟨18, none⟩) (.inr ⟨_, rfl⟩) [.tmp 6, .tmp 7, .tmp 8] [_, _, _] rfl Try.func18 Try.results18 ⟨RV.tmp rfl, RV.tmp rfl, RV.tmp rfl, trivial⟩ (fun _ h => List.mem_cons_of_mem _ h) ⟨rfl, rfl, rfl⟩
     ·have r406 := ifF r394 c404; clear r394
      refine Cov.skip ?_;refine Cov.region rfl ?_;refine Cov.q .ro (.move rfl) rfl ?_;refine Cov.q .ro (.move rfl) rfl ?_
      refine Cov.lit [_] [(0, _)] .ro sl29 ty32 rfl rfl rfl rfl rfl rfl (fun b407 hb407 => ?_)
      have o408 : OL (Rep.sl (Rep.pair Rep.str (Rep.int .i64))) G397 [.slice a401 u393.1.length k402] ([u393.1] : List (List (ByteArray × Int))) := ((OL.cons rfl (Rep.slI s403) (OL.nil (Rp' := (Rep.sl (Rep.pair Rep.str (Rep.int .i64)))))) :)
      refine Cov.reval 73 (n' := ([u393.1] : List (List (ByteArray × Int))).length) rfl rfl ?_
      obtain ⟨u414, hu414, r415⟩ := bind_some r406; clear r406
      refine Cov.appO (Q := (Rep.sl (Rep.pair Rep.str (Rep.int .i64)))) 0 .ro sl29 ty32 rfl rfl rfl rfl rfl rfl (OL.mono e398 o379) o408 rfl rfl rfl B399 hu414 rfl (fun a410 k411 cs412 o413 => ?_)
      refine Cov.q .ro (.assign rfl) rfl ?_;refine Cov.region_end ?_;refine Cov.prune [(16, _), (58, _), (0, _), (1, _), (56, _), (57, _)] ⟨rfl, rfl, rfl, rfl, rfl, rfl, trivial⟩ ?_;refine Cov.inBlock ?_;refine Cov.region rfl ?_;refine Cov.q .ro (.addw rfl rfl) rfl ?_;refine Cov.q .ro (.move rfl) rfl ?_;refine Cov.region_end ?_
      refine Cov.prune _ ?_ (Cov.same rfl rfl rfl (hb382 ((i368 + 1), xs389, G397, u414, a410, k411, cs412) ⟨(HpLe.trans e372 e398), B399, o413, (drop_succ g370), r415⟩ (Nat.lt_succ_self _)))
      exact ⟨rfl, (congrArg (fun z => some (Value.int .i64 z)) (idx_wrap (OL.len' o142) g370)), rfl, rfl, rfl, rfl, trivial⟩
  ·intro hb417
   refine Cov.block ?_
   refine Cov.loop2 (α := Nat × (List (Int × (List Int) × (List Int))) × List ByteArray × Option Addr × Nat × List Value) (fun y => [(11, .slice y.2.2.2.1 y.2.2.1.length y.2.2.2.2.1), (38, .int .i64 (y.1 : Int))]) [(0, _), (1, _), (36, _), (37, _)] (fun y => []) (fun y => []) [] (fun y => [.s (.slice y.2.2.2.1 y.2.2.1.length y.2.2.2.2.1) 9 1 y.2.2.1.length y.2.2.2.2.2]) [] (fun y => OL Rep.str G y.2.2.2.2.2 y.2.2.1 ∧ List.drop y.1 x2 = y.2.1 ∧ lookup_Read_L4 (lookup_Read_J3 x0 x1) y.2.1 y.1 y.2.2.1 = some r) (fun y => y.2.1.length) (0, x2, u52, (some ⟨b54, 0, none⟩), u52.length, cs55) ⟨o56, rfl, r53⟩ ⟨rfl, rfl, rfl, rfl, rfl, rfl, trivial⟩ rfl rfl rfl (fun y hI hb463 => ?_)
   obtain ⟨i453, w454, v456, a457, k458, cs459⟩ := y
   obtain ⟨o460, g455, r462⟩ := hI
   try dsimp only at o460 g455 r462
   refine Cov.prune [(11, .slice a457 v456.length k458), (38, .int .i64 (i453 : Int)), (0, _), (1, _), (36, _), (37, _)] ⟨rfl, rfl, rfl, rfl, rfl, rfl, trivial⟩ ?_;refine Cov.same (bl' := []) (sl' := [.s (.slice a457 v456.length k458) 9 1 v456.length cs459]) (Fs' := G :: Fs) rfl rfl rfl ?_
   cases w454 with
   | nil =>
    rw [lookup_Read_L4] at r462; try dsimp only at r462
    refine Cov.seq ?_;refine Cov.region rfl ?_;refine Cov.q .ro (.lss rfl rfl) rfl ?_;refine Cov.region_end ?_;refine Cov.seq ?_
    refine Cov.cond_dec rfl (fun c => absurd c (drop_nil g455)) (fun _ => ?_)
    refine Cov.exit rfl ?_
    refine Cov.prune _ ?_ (Cov.same rfl rfl rfl (hb417 (v456, a457, k458, cs459) ⟨o460, r462⟩))
    exact ⟨rfl, rfl, rfl, trivial⟩
   | cons x469 xs470 =>
    have r468 : lookup_Read_B4 (lookup_Read_J3 x0 x1) (lookup_Read_L4 (lookup_Read_J3 x0 x1) xs470 (i453 + 1)) x469 i453 v456 = some r := r462; clear r462; unfold lookup_Read_B4 at r468; try dsimp only at r468
    refine Cov.seq ?_;refine Cov.region rfl ?_;refine Cov.q .ro (.lss rfl rfl) rfl ?_;refine Cov.region_end ?_;refine Cov.seq ?_
    refine Cov.cond_dec rfl (fun _ => ?_) (fun c => absurd (drop_lt g455) c)
    refine Cov.skip ?_;refine Cov.seq ?_;refine Cov.block ?_;refine Cov.seq ?_;refine Cov.region rfl ?_;refine Cov.q .ro (.move rfl) rfl ?_
    obtain ⟨c471, p472, h473⟩ := SlR.get s2 (drop_idx g455)
    obtain ⟨_, _, rfl, rfl, _, _, rfl, ⟨a477, k478, rfl, s479⟩, a474, k475, rfl, s476⟩ := h473
    refine Cov.q .ro (.idxR s2 rfl rfl (drop_idx g455) sl68 ty67.sz) rfl ?_;refine Cov.q .ro (.load_rp_a [_, _, _] p472 List.mem_cons_self rfl ty67 rfl) rfl ?_
    refine Cov.alloc .ro ty67 rfl (fun b480 hb480 => ?_)
    refine Cov.q .ro (.assign rfl) rfl ?_;refine Cov.store 0 [_, _, _] [_] .ro rfl rfl rfl ty67 rfl rfl rfl rfl ?_;refine Cov.region_end ?_;refine Cov.seq ?_;refine Cov.region rfl ?_;refine Cov.q .ro (.fieldAddr 1 rfl fl67_1 ty39.sz rfl) rfl ?_;refine Cov.q .ro (.load_own 0 rfl rfl ty39 rfl) rfl ?_
    obtain ⟨u481, hu481, r482⟩ := bind_some r468; clear r468
    refine Cov.callS (b1 := []) (b2 := [_]) (s1 := []) [_] [] .ro rfl rfl Try.call34 rfl rfl (lookup_bytesOf_c (G := G) List.mem_cons_self s479 hu481) rfl (fun v484 bo so h483 => ?_)
    obtain ⟨rfl, rfl, rfl⟩ := h483
    refine Cov.same (bl' := [_]) (sl' := [_]) rfl rfl rfl ?_;refine Cov.q .ro (.move rfl) rfl ?_;refine Cov.q .ro (.extract rfl rfl) rfl ?_;refine Cov.q .ro (.extract rfl rfl) rfl ?_;refine Cov.q .ro (.assign rfl) rfl ?_;refine Cov.q .ro (.assign rfl) rfl ?_;refine Cov.region_end ?_;refine Cov.seq ?_;refine Cov.seq ?_
    refine Cov.region rfl ?_;refine Cov.q .ro (.move rfl) rfl ?_;refine Cov.q .ro (.not rfl) rfl ?_;refine Cov.region_end ?_;refine Cov.prune [(11, _), (38, _), (0, _), (1, _), (36, _), (37, _), (12, _), (14, _), (50, _)] ⟨rfl, rfl, rfl, rfl, rfl, rfl, rfl, rfl, rfl, trivial⟩ ?_
    refine Cov.cond rfl (fun c485 => ?_) (fun c485 => ?_)
    ·have r486 := ifT r482 c485; clear r482
     refine Cov.seq ?_;refine Cov.region rfl ?_;refine Cov.q .ro (.assign rfl) rfl ?_;refine Cov.q .ro (.assign rfl) rfl ?_;refine Cov.q .ro (.assign rfl) rfl ?_;refine Cov.region_end ?_
     cases r486
     refine Cov.drop 1 0 [] _ rfl rfl ?_;refine Cov.drop 0 1 _ [] rfl rfl ?_
     refine Cov.retS (c := ⟨18, none⟩) (.inr ⟨_, rfl⟩) [.tmp 6, .tmp 7, .tmp 8] [_, _, _] rfl Try.func18 Try.results18 ⟨RV.tmp rfl, RV.tmp rfl, RV.tmp rfl, trivial⟩ (fun _ h => List.mem_cons_of_mem _ h) ⟨rfl, rfl, rfl⟩
    ·have r487 := ifBF r482 c485; clear r482
     refine Cov.skip ?_;refine Cov.region rfl ?_;refine Cov.q .ro (.move rfl) rfl ?_;refine Cov.q .ro (.move rfl) rfl ?_;refine Cov.q .ro (.move rfl) rfl ?_
     obtain ⟨u488, hu488, r489⟩ := bind_some r487; clear r487
     obtain ⟨c490, p491, h492⟩ := OL.get o460 hu488
     obtain rfl := h492
     refine Cov.q .ro (.idxO 0 rfl rfl rfl hu488 sl35 ty9.sz) rfl ?_
     obtain ⟨u493, hu493, r494⟩ := bind_some r489; clear r489
     refine Cov.storeR 0 0 (Q := Rep.str) .ro rfl rfl o460 hu493 rfl (.inl ⟨rfl, rfl⟩) rfl ty9 p491 ((Rep.strI u481.1) :) rfl rfl (fun cs495 hlcs495 o496 => ?_)
     refine Cov.reval 11 hlcs495 rfl ?_;refine Cov.reval 51 hlcs495 rfl ?_;refine Cov.region_end ?_;refine Cov.inBlock ?_;refine Cov.region rfl ?_;refine Cov.q .ro (.addw rfl rfl) rfl ?_;refine Cov.q .ro (.move rfl) rfl ?_;refine Cov.region_end ?_;refine Cov.drop 1 0 [] _ rfl rfl ?_
     refine Cov.prune _ ?_ (Cov.same rfl rfl rfl (hb463 ((i453 + 1), xs470, u493, a457, k458, cs495) ⟨o496, (drop_succ g455), r494⟩ (Nat.lt_succ_self _)))
     exact ⟨rfl, (congrArg (fun z => some (Value.int .i64 z)) (idx_wrap (SlR.len s2) g455)), rfl, rfl, rfl, rfl, trivial⟩
 ·intro hb498
  refine Cov.block ?_
  refine Cov.loop2 (α := Nat × (List (Int × (List Int) × (List Int)))) (fun y => [(23, .int .i64 (y.1 : Int))]) [(0, _), (1, _), (2, _), (21, _), (22, _)] (fun y => []) (fun y => []) [] (fun y => []) [] (fun y => List.drop y.1 x2 = y.2 ∧ lookup_Read_L6 (lookup_Read_J5 x0 x1 x2) y.2  = some r) (fun y => y.2.length) (0, x2) ⟨rfl, h⟩ ⟨rfl, rfl, rfl, rfl, rfl, rfl, trivial⟩ rfl rfl rfl (fun y hI hb524 => ?_)
  obtain ⟨i520, w521⟩ := y
  obtain ⟨g522, r523⟩ := hI
  try dsimp only at g522 r523
  refine Cov.prune [(23, .int .i64 (i520 : Int)), (0, _), (1, _), (2, _), (21, _), (22, _)] ⟨rfl, rfl, rfl, rfl, rfl, rfl, trivial⟩ ?_;refine Cov.same (bl' := []) (sl' := []) (Fs' := G :: Fs) rfl rfl rfl ?_
  cases w521 with
  | nil =>
   rw [lookup_Read_L6] at r523; try dsimp only at r523
   refine Cov.seq ?_;refine Cov.region rfl ?_;refine Cov.q .ro (.lss rfl rfl) rfl ?_;refine Cov.region_end ?_;refine Cov.seq ?_
   refine Cov.cond_dec rfl (fun c => absurd c (drop_nil g522)) (fun _ => ?_)
   refine Cov.exit rfl ?_
   refine Cov.prune _ ?_ (Cov.same rfl rfl rfl (hb498 () r523))
   exact ⟨rfl, rfl, rfl, trivial⟩
  | cons x530 xs531 =>
   have r529 : lookup_Read_B6 (lookup_Read_J5 x0 x1 x2) (lookup_Read_L6 (lookup_Read_J5 x0 x1 x2) xs531) x530  = some r := r523; clear r523; unfold lookup_Read_B6 at r529; try dsimp only at r529
   refine Cov.seq ?_;refine Cov.region rfl ?_;refine Cov.q .ro (.lss rfl rfl) rfl ?_;refine Cov.region_end ?_;refine Cov.seq ?_
   refine Cov.cond_dec rfl (fun _ => ?_) (fun c => absurd (drop_lt g522) c)
   refine Cov.skip ?_;refine Cov.seq ?_;refine Cov.block ?_;refine Cov.seq ?_;refine Cov.region rfl ?_
   obtain ⟨c532, p533, h534⟩ := SlR.get s2 (drop_idx g522)
   obtain ⟨_, _, rfl, rfl, _, _, rfl, ⟨a538, k539, rfl, s540⟩, a535, k536, rfl, s537⟩ := h534
   refine Cov.q .ro (.idxR s2 rfl rfl (drop_idx g522) sl68 ty67.sz) rfl ?_;refine Cov.q .ro (.load_rp_a [_, _, _] p533 List.mem_cons_self rfl ty67 rfl) rfl ?_
   refine Cov.alloc .ro ty67 rfl (fun b541 hb541 => ?_)
   refine Cov.store 0 [_, _, _] [_] .ro rfl rfl rfl ty67 rfl rfl rfl rfl ?_;refine Cov.region_end ?_;refine Cov.seq ?_;refine Cov.region rfl ?_;refine Cov.q .ro (.fieldAddr 0 rfl fl67_0 ty40.sz rfl) rfl ?_;refine Cov.q .ro (.load_own 0 rfl rfl ty40 rfl) rfl ?_;refine Cov.q .ro (.neq rfl rfl) rfl ?_;refine Cov.region_end ?_
   refine Cov.cond_dec rfl (fun c542 => ?_) (fun c542 => ?_)
   ·have r543 := ifT r529 c542; clear r529
    refine Cov.seq ?_;refine Cov.drawL (.q 0 (.q 1 (.q 2 (.q 3 (.q 4 .nil))))) [_] (by kernel_rfl) (by kernel_rfl) (pick_mem [0] rfl) ?_;refine Cov.dq (.fieldAddr 0 rfl fl67_0 ty40.sz rfl) rfl ?_;refine Cov.dq (.load_own 0 rfl rfl ty40 rfl) rfl ?_;refine Cov.dq (.assign rfl) rfl ?_;refine Cov.dq (.assign rfl) rfl ?_;refine Cov.dq (.assign rfl) rfl ?_;refine Cov.draw_end ?_;refine Cov.prune [(6, _), (7, _), (8, _)] ⟨rfl, rfl, rfl, trivial⟩ ?_
    cases r543
    refine Cov.drop 1 0 [] _ rfl rfl ?_
    refine Cov.retS (c := ⟨18, none⟩) (.inr ⟨_, rfl⟩) [.tmp 6, .tmp 7, .tmp 8] [_, _, _] rfl Try.func18 Try.results18 ⟨RV.tmp rfl, RV.tmp rfl, RV.tmp rfl, trivial⟩ (fun _ h => List.mem_cons_of_mem _ h) ⟨rfl, rfl, rfl⟩
   ·have r544 := ifF r529 c542; clear r529
    refine Cov.skip ?_;refine Cov.inBlock ?_;refine Cov.region rfl ?_;refine Cov.q .ro (.addw rfl rfl) rfl ?_;refine Cov.q .ro (.move rfl) rfl ?_;refine Cov.region_end ?_;refine Cov.drop 1 0 [] _ rfl rfl ?_
    refine Cov.prune _ ?_ (Cov.same rfl rfl rfl (hb524 ((i520 + 1), xs531) ⟨(drop_succ g522), r544⟩ (Nat.lt_succ_self _)))
    exact ⟨(congrArg (fun z => some (Value.int .i64 z)) (idx_wrap (SlR.len s2) g522)), rfl, rfl, rfl, rfl, rfl, trivial⟩
end Go.Proofs.Ytmfppphlhgneeaa
end

section
namespace Go.Proofs.Ytmfppphlhgneeaa
open Go.RowKit
set_option linter.unusedSimpArgs false
set_option linter.unusedVariables false
set_option synthInstance.maxSize 2000
set_option synthInstance.maxHeartbeats 400000
set_option maxHeartbeats 4000000 in
set_option maxRecDepth 100000 in
theorem law35_LookupTables_c {Fs : List Hp} {G : Hp} {a0 : Option Addr} {k0 : Nat} {x0 : List Int} {r : Bool} (hG : G ∈ Fs) (s0 : SlR (Rep.int .u8) G a0 k0 x0) (h : law35_LookupTables x0 = some r) : RetS Try.prog 5 #[.slice a0 x0.length k0] Fs [] [] (fun v bo so => v = .bool r ∧ bo = [] ∧ so = []) := by
 unfold law35_LookupTables at h
 try dsimp only at h
 refine RetS.of (vs := [_]) Try.func5 rfl Try.ntmps5 [(0, _)] ⟨rfl, trivial⟩ rfl hG fun w0 S0 hS0 B0 => ?_
 refine Cov.seq ?_;refine Cov.region rfl ?_;refine Cov.q .ro (.assign rfl) rfl ?_;refine Cov.region_end ?_;refine Cov.seq ?_;refine Cov.seq ?_;refine Cov.region rfl ?_
 obtain ⟨u1, hu1, r2⟩ := bind_some h; clear h
 refine Cov.callS (b1 := []) (b2 := []) (s1 := []) [] [] .ro rfl rfl Try.call6 rfl rfl (law35_sane_c (G := G) List.mem_cons_self  hu1) rfl (fun v4 bo so h3 => ?_)
 obtain ⟨rfl, rfl, rfl⟩ := h3
 refine Cov.same (bl' := []) (sl' := []) rfl rfl rfl ?_;refine Cov.q .ro (.not rfl) rfl ?_;refine Cov.region_end ?_
 refine Cov.cond rfl (fun c5 => ?_) (fun c5 => ?_)
 ·have r6 := ifT r2 c5; clear r2
  refine Cov.seq ?_;refine Cov.region rfl ?_;refine Cov.q .ro (.assign rfl) rfl ?_;refine Cov.region_end ?_
  cases r6
  refine Cov.retS (c := ⟨5, none⟩) (.inr ⟨_, rfl⟩) [.tmp 2] [_] rfl Try.func5 Try.results5 ⟨RV.tmp rfl, trivial⟩ (fun _ h => List.mem_cons_of_mem _ h) ⟨rfl, rfl, rfl⟩
 ·have r7 := ifBF r2 c5; clear r2
  refine Cov.skip ?_;refine Cov.seq ?_;refine Cov.region rfl ?_;refine Cov.q .ro (.move rfl) rfl ?_
  obtain ⟨u8, hu8, r9⟩ := bind_some r7; clear r7
  refine Cov.callS (b1 := []) (b2 := []) (s1 := []) [_] [] .ro rfl rfl Try.call7 rfl rfl (play_New_c (G := G) List.mem_cons_self s0 hu8) rfl (fun v11 bo so h10 => ?_)
  obtain ⟨a13, k14, b12, rfl, rfl, rfl, s15⟩ := h10
  refine Cov.same (bl' := [_]) (sl' := []) rfl rfl rfl ?_;refine Cov.q .ro (.assign rfl) rfl ?_;refine Cov.region_end ?_;refine Cov.seq ?_;refine Cov.region rfl ?_;refine Cov.q .ro (.move rfl) rfl ?_
  obtain ⟨u16, hu16, r17⟩ := bind_some r9; clear r9
  refine Cov.callW (b1 := [_]) (b2 := []) (s1 := []) [_] [] .ro rfl rfl Try.call8 rfl rfl (law35_directory_c (G := G) List.mem_cons_self s15 hu16) rfl B0 (fun v19 bo so G20 e21 B22 h18 => ?_)
  obtain ⟨a24, k25, a27, k28, a30, k31, a33, k34, rfl, rfl, rfl, s26, s29, s32, s35⟩ := h18
  refine Cov.same (bl' := [_]) (sl' := []) rfl rfl rfl ?_;refine Cov.q .ro (.move rfl) rfl ?_;refine Cov.q .ro (.extract rfl rfl) rfl ?_;refine Cov.q .ro (.extract rfl rfl) rfl ?_
  refine Cov.alloc .ro ty31 rfl (fun b36 hb36 => ?_)
  refine Cov.store 0 [_, _, _, _] [_, _] .ro rfl rfl rfl ty31 rfl rfl rfl rfl ?_;refine Cov.q .ro (.assign rfl) rfl ?_;refine Cov.region_end ?_;refine Cov.seq ?_;refine Cov.region rfl ?_;refine Cov.q .ro (.build [_] [(0, _)] ty54 pl54 rfl rfl) rfl ?_;refine Cov.q .ro (.load_own_a 0 [_, _, _, _] rfl rfl ty31 rfl) rfl ?_
  obtain ⟨u37, hu37, r38⟩ := bind_some r17; clear r17
  refine Cov.callW (b1 := []) (b2 := [_, _]) (s1 := []) [_, _, _] [] .ro rfl rfl Try.call15 rfl rfl (lookup_Table_c (G := G20) List.mem_cons_self s26 s29 hu37) rfl B22 (fun v40 bo so G41 e42 B43 h39 => ?_)
  obtain ⟨a45, k46, rfl, rfl, rfl, s47⟩ := h39
  refine Cov.same (bl' := [_, _]) (sl' := []) rfl rfl rfl ?_;refine Cov.q .ro (.move rfl) rfl ?_;refine Cov.q .ro (.extract rfl rfl) rfl ?_;refine Cov.q .ro (.extract rfl rfl) rfl ?_
  refine Cov.alloc .ro ty57 rfl (fun b48 hb48 => ?_)
  refine Cov.store 0 [_, _, _, _] [_, _, _] .ro rfl rfl rfl ty57 rfl rfl rfl rfl ?_;refine Cov.q .ro (.assign rfl) rfl ?_;refine Cov.region_end ?_;refine Cov.prune [(4, _), (5, _), (6, _), (7, _)] ⟨rfl, rfl, rfl, rfl, trivial⟩ ?_;refine Cov.seq ?_;refine Cov.seq ?_;refine Cov.drawL (.q 0 (.q 1 (.q 2 (.q 3 (.q 4 (.q 5 (.q 6 (.q 7 (.q 8 (.q 9 (.q 10 (.q 11 (.q 12 (.q 13 (.e 14 1 (.q 15 (.q 16 (.q 17 (.q 18 (.e 19 1 (.q 20 (.q 21 .nil)))))))))))))))))))))) [_, _, _] (by kernel_rfl) (by kernel_rfl) (pick_mem [0, 1, 2] rfl) ?_;refine Cov.dq (.move rfl) rfl ?_;refine Cov.dq (.neq rfl rfl) rfl ?_
  refine Cov.dq (.move rfl) rfl ?_;refine Cov.cutD 8 (β := Unit) (fun y => [(44, .bool (decide ((u37.2 ≠ 0) ∨ ((u37.1.2.2.2.length : Int) ≠ u16.1.1.1))))]) [(4, _), (5, _), (6, _)] (fun y => G41 :: Fs) (fun y => []) [_, _, _] (fun y => []) [] (fun y => True) ⟨rfl, rfl, rfl, trivial⟩ [0, 1, 2] rfl [] rfl ?_ ?_
  ·rintro _ _
   refine Cov.prune [(44, .bool (decide ((u37.2 ≠ 0) ∨ ((u37.1.2.2.2.length : Int) ≠ u16.1.1.1)))), (4, _), (5, _), (6, _)] ⟨rfl, rfl, rfl, rfl, trivial⟩ ?_;refine Cov.same (bl' := [_, _, _]) (sl' := []) (Fs' := G41 :: Fs) rfl rfl rfl ?_;refine Cov.dq (.move rfl) rfl ?_
   obtain ⟨u59, h60, r61⟩ := bind_some r38; clear r38
   refine Cov.cutD 5 (β := Unit) (fun y => [(50, .bool u59)]) [(4, _), (5, _), (6, _)] (fun y => G41 :: Fs) (fun y => []) [_, _, _] (fun y => []) [] (fun y => True) ⟨rfl, rfl, rfl, trivial⟩ [0, 1, 2] rfl [] rfl ?_ ?_
   ·rintro _ _
    refine Cov.prune [(50, .bool u59), (4, _), (5, _), (6, _)] ⟨rfl, rfl, rfl, rfl, trivial⟩ ?_;refine Cov.same (bl' := [_, _, _]) (sl' := []) (Fs' := G41 :: Fs) rfl rfl rfl ?_;refine Cov.dq (.move rfl) rfl ?_
    obtain ⟨u70, h71, r72⟩ := bind_some r61; clear r61
    refine Cov.cutD 4 (β := Unit) (fun y => [(55, .bool u70)]) [(4, _), (5, _), (6, _)] (fun y => G41 :: Fs) (fun y => []) [_, _, _] (fun y => []) [] (fun y => True) ⟨rfl, rfl, rfl, trivial⟩ [0, 1, 2] rfl [] rfl ?_ ?_
    ·rintro _ _
     refine Cov.prune [(55, .bool u70), (4, _), (5, _), (6, _)] ⟨rfl, rfl, rfl, rfl, trivial⟩ ?_;refine Cov.same (bl' := [_, _, _]) (sl' := []) (Fs' := G41 :: Fs) rfl rfl rfl ?_;refine Cov.draw_end ?_
     refine Cov.cond rfl (fun c75 => ?_) (fun c75 => ?_)
     ·have r76 := ifT r72 c75; clear r72
      refine Cov.seq ?_;refine Cov.region rfl ?_;refine Cov.q .ro (.assign rfl) rfl ?_;refine Cov.region_end ?_
      cases r76
      refine Cov.drop 3 0 [] _ rfl rfl ?_
      refine Cov.retS (c := ⟨5, none⟩) (.inr ⟨_, rfl⟩) [.tmp 2] [_] rfl Try.func5 Try.results5 ⟨RV.tmp rfl, trivial⟩ (fun _ h => List.mem_cons_of_mem _ h) ⟨rfl, rfl, rfl⟩
     ·have r77 := ifBF r72 c75; clear r72
      refine Cov.skip ?_;refine Cov.seq ?_;refine Cov.region rfl ?_;refine Cov.q .ro (.assign rfl) rfl ?_;refine Cov.region_end ?_;refine Cov.seq ?_;refine Cov.seq ?_;refine Cov.region rfl ?_;refine Cov.q .ro (.fieldAddr 3 rfl fl57_3 ty55.sz rfl) rfl ?_
      refine Cov.q .ro (.load_own 0 rfl rfl ty55 rfl) rfl ?_;refine Cov.q .ro (.len_sl rfl rfl sl55) rfl ?_;refine Cov.q .ro (.move rfl) rfl ?_;refine Cov.region_end ?_;refine Cov.cutB (β := Hp × Int × Int × Int × Int × Int × Int × Int) (fun y => [(8, .int .i64 y.2.1)]) [(5, _)] (fun y => y.1 :: Fs) (fun y => [(b48, .cells #[.int .i64 y.2.2.1, .int .i64 y.2.2.2.1, .int .i64 y.2.2.2.2.1, .slice a45 u37.1.2.2.2.length k46] 57 (0, 0)), (b36, .cells #[.int .i64 y.2.2.2.2.2.1, .slice a24 u16.1.1.2.length k25, .int .i64 y.2.2.2.2.2.2.1, .slice a27 u16.1.2.2.length k28] 31 (0, 0)), (b12, .cells #[.slice a33 u16.2.2.1.length k34, .int .i64 y.2.2.2.2.2.2.2] 74 (0, 0))]) [] (fun y => []) [] (fun y => HpLe G41 y.1 ∧ Bd w0 S0 Fs y.1 ∧ (law35_LookupTables_J1 u16.2.1) y.2.1 y.2.2.1 y.2.2.2.1 y.2.2.2.2.1 y.2.2.2.2.2.1 y.2.2.2.2.2.2.1 y.2.2.2.2.2.2.2 = some r) ⟨rfl, trivial⟩ [] rfl [] rfl ?_ ?_
      ·intro y hI
       obtain ⟨G1019, v1023, v1024, v1025, v1026, v1027, v1028, v1029⟩ := y
       obtain ⟨e1020, B1021, r1031⟩ := hI
       try dsimp only at e1020 B1021 r1031
       refine Cov.prune [(8, .int .i64 v1023), (5, _)] ⟨rfl, rfl, trivial⟩ ?_;refine Cov.same (bl' := [(b48, .cells #[.int .i64 v1024, .int .i64 v1025, .int .i64 v1026, .slice a45 u37.1.2.2.2.length k46] 57 (0, 0)), (b36, .cells #[.int .i64 v1027, .slice a24 u16.1.1.2.length k25, .int .i64 v1028, .slice a27 u16.1.2.2.length k28] 31 (0, 0)), (b12, .cells #[.slice a33 u16.2.2.1.length k34, .int .i64 v1029] 74 (0, 0))]) (sl' := []) (Fs' := G1019 :: Fs) rfl rfl rfl ?_
       unfold law35_LookupTables_J1 at r1031
       try dsimp only at r1031
       refine Cov.seq ?_;refine Cov.region rfl ?_;refine Cov.q .ro (.move rfl) rfl ?_;refine Cov.q .ro (.move rfl) rfl ?_;refine Cov.q .ro (.len_sl rfl rfl sl32) rfl ?_;refine Cov.q .ro (.eql rfl rfl) rfl ?_;refine Cov.q .ro (.assign rfl) rfl ?_;refine Cov.region_end ?_
       cases r1031
       refine Cov.drop 3 0 [] _ rfl rfl ?_
       refine Cov.retS (c := ⟨5, none⟩) (.inr ⟨_, rfl⟩) [.tmp 2] [_] rfl Try.func5 Try.results5 ⟨RV.tmp rfl, trivial⟩ (fun _ h => List.mem_cons_of_mem _ h) ⟨rfl, rfl, rfl⟩
      ·intro hb1037
       refine Cov.block ?_;refine Cov.pull 2 rfl [_, _, _] rfl ?_;refine Cov.pull 2 rfl [_, _, _] rfl ?_;refine Cov.pull 2 rfl [_, _, _] rfl ?_
       refine Cov.loop2 (α := Nat × List (List Int) × Hp × Int × Int × Int × Int × Int × Int × Int) (fun y => [(8, .int .i64 y.2.2.2.1), (59, .int .i64 (y.1 : Int))]) [(4, _), (5, _), (57, _), (58, _)] (fun y => [y.2.2.1]) (fun y => [(b48, .cells #[.int .i64 y.2.2.2.2.1, .int .i64 y.2.2.2.2.2.1, .int .i64 y.2.2.2.2.2.2.1, .slice a45 u37.1.2.2.2.length k46] 57 (0, 0)), (b36, .cells #[.int .i64 y.2.2.2.2.2.2.2.1, .slice a24 u16.1.1.2.length k25, .int .i64 y.2.2.2.2.2.2.2.2.1, .slice a27 u16.1.2.2.length k28] 31 (0, 0)), (b12, .cells #[.slice a33 u16.2.2.1.length k34, .int .i64 y.2.2.2.2.2.2.2.2.2] 74 (0, 0))]) [] (fun y => []) [] (fun y => HpLe G41 y.2.2.1 ∧ Bd w0 S0 Fs y.2.2.1 ∧ List.drop y.1 u37.1.2.2.2 = y.2.1 ∧ law35_LookupTables_L5 (law35_LookupTables_J1 u16.2.1) u16.2.1 u16.1.2.2 y.2.1 y.1 y.2.2.2.1 y.2.2.2.2.1 y.2.2.2.2.2.1 y.2.2.2.2.2.2.1 y.2.2.2.2.2.2.2.1 y.2.2.2.2.2.2.2.2.1 y.2.2.2.2.2.2.2.2.2 = some r) (fun y => y.2.1.length) (0, u37.1.2.2.2, G41, 0, u37.1.1, u37.1.2.1, u37.1.2.2.1, u16.1.1.1, u16.1.2.1, u16.2.2.2) ⟨(HpLe.refl _), B43, rfl, r77⟩ ⟨rfl, rfl, rfl, rfl, rfl, rfl, trivial⟩ rfl rfl rfl (fun y hI hb1515 => ?_)
       obtain ⟨i1500, w1501, G1503, v1507, v1508, v1509, v1510, v1511, v1512, v1513⟩ := y
       obtain ⟨e1504, B1505, g1502, r1514⟩ := hI
       try dsimp only at e1504 B1505 g1502 r1514
       refine Cov.prune [(8, .int .i64 v1507), (59, .int .i64 (i1500 : Int)), (4, _), (5, _), (57, _), (58, _)] ⟨rfl, rfl, rfl, rfl, rfl, rfl, trivial⟩ ?_;refine Cov.same (bl' := [(b48, .cells #[.int .i64 v1508, .int .i64 v1509, .int .i64 v1510, .slice a45 u37.1.2.2.2.length k46] 57 (0, 0)), (b36, .cells #[.int .i64 v1511, .slice a24 u16.1.1.2.length k25, .int .i64 v1512, .slice a27 u16.1.2.2.length k28] 31 (0, 0)), (b12, .cells #[.slice a33 u16.2.2.1.length k34, .int .i64 v1513] 74 (0, 0))]) (sl' := []) (Fs' := G1503 :: Fs) rfl rfl rfl ?_
       cases w1501 with
       | nil =>
        rw [law35_LookupTables_L5] at r1514; try dsimp only at r1514
        refine Cov.seq ?_;refine Cov.region rfl ?_;refine Cov.q .ro (.lss rfl rfl) rfl ?_;refine Cov.region_end ?_;refine Cov.seq ?_
        refine Cov.cond_dec rfl (fun c => absurd c (drop_nil g1502)) (fun _ => ?_)
        refine Cov.exit rfl ?_
        refine Cov.prune _ ?_ (Cov.same rfl rfl rfl (hb1037 (G1503, v1507, v1508, v1509, v1510, v1511, v1512, v1513) ⟨e1504, B1505, r1514⟩))
        exact ⟨rfl, rfl, trivial⟩
       | cons x1523 xs1524 =>
        have r1522 : law35_LookupTables_B5 (law35_LookupTables_J1 u16.2.1) u16.2.1 u16.1.2.2 (law35_LookupTables_L5 (law35_LookupTables_J1 u16.2.1) u16.2.1 u16.1.2.2 xs1524 (i1500 + 1)) x1523 i1500 v1507 v1508 v1509 v1510 v1511 v1512 v1513 = some r := r1514; clear r1514; unfold law35_LookupTables_B5 at r1522; try dsimp only at r1522
        refine Cov.seq ?_;refine Cov.region rfl ?_;refine Cov.q .ro (.lss rfl rfl) rfl ?_;refine Cov.region_end ?_;refine Cov.seq ?_
        refine Cov.cond_dec rfl (fun _ => ?_) (fun c => absurd (drop_lt g1502) c)
        refine Cov.skip ?_;refine Cov.seq ?_;refine Cov.block ?_;refine Cov.seq ?_;refine Cov.region rfl ?_;refine Cov.q .ro (.move rfl) rfl ?_
        obtain ⟨c1525, p1526, h1527⟩ := SlR.get (SlR.mono e1504 s47) (drop_idx g1502)
        obtain ⟨a1528, k1529, rfl, s1530⟩ := h1527
        refine Cov.q .ro (.idxR (SlR.mono e1504 s47) rfl rfl (drop_idx g1502) sl55 ty39.sz) rfl ?_;refine Cov.q .ro (.load_rp p1526 List.mem_cons_self rfl ty39 rfl) rfl ?_;refine Cov.q .ro (.assign rfl) rfl ?_;refine Cov.q .ro (.assign rfl) rfl ?_;refine Cov.region_end ?_;refine Cov.seq ?_;refine Cov.region rfl ?_;refine Cov.q .ro (.move rfl) rfl ?_;refine Cov.q .ro (.len_sl rfl rfl sl32) rfl ?_
        refine Cov.q .ro (.move rfl) rfl ?_;refine Cov.region_end ?_;refine Cov.block ?_;refine Cov.pull 2 rfl [_, _, _] rfl ?_;refine Cov.pull 2 rfl [_, _, _] rfl ?_;refine Cov.pull 2 rfl [_, _, _] rfl ?_
        refine Cov.loop2 (α := Nat × (List (ByteArray × Int)) × Hp × Int × Int × Int × Int × Int × Int × Int) (fun y => [(8, .int .i64 y.2.2.2.1), (66, .int .i64 (y.1 : Int))]) [(59, _), (4, _), (5, _), (57, _), (58, _), (9, _), (10, _), (64, _), (65, _)] (fun y => [y.2.2.1]) (fun y => [(b48, .cells #[.int .i64 y.2.2.2.2.1, .int .i64 y.2.2.2.2.2.1, .int .i64 y.2.2.2.2.2.2.1, .slice a45 u37.1.2.2.2.length k46] 57 (0, 0)), (b36, .cells #[.int .i64 y.2.2.2.2.2.2.2.1, .slice a24 u16.1.1.2.length k25, .int .i64 y.2.2.2.2.2.2.2.2.1, .slice a27 u16.1.2.2.length k28] 31 (0, 0)), (b12, .cells #[.slice a33 u16.2.2.1.length k34, .int .i64 y.2.2.2.2.2.2.2.2.2] 74 (0, 0))]) [] (fun y => []) [] (fun y => HpLe G1503 y.2.2.1 ∧ Bd w0 S0 Fs y.2.2.1 ∧ List.drop y.1 u16.2.1 = y.2.1 ∧ law35_LookupTables_L4 (law35_LookupTables_L5 (law35_LookupTables_J1 u16.2.1) u16.2.1 u16.1.2.2 xs1524 (i1500 + 1)) (i1500 : Int) x1523 u16.1.2.2 y.2.1 y.2.2.2.1 y.2.2.2.2.1 y.2.2.2.2.2.1 y.2.2.2.2.2.2.1 y.2.2.2.2.2.2.2.1 y.2.2.2.2.2.2.2.2.1 y.2.2.2.2.2.2.2.2.2 = some r) (fun y => y.2.1.length) (0, u16.2.1, G1503, v1507, v1508, v1509, v1510, v1511, v1512, v1513) ⟨(HpLe.refl _), B1505, rfl, r1522⟩ ⟨rfl, rfl, rfl, rfl, rfl, rfl, rfl, rfl, rfl, rfl, rfl, trivial⟩ rfl rfl rfl (fun y hI hb1762 => ?_)
        obtain ⟨i1747, w1748, G1750, v1754, v1755, v1756, v1757, v1758, v1759, v1760⟩ := y
        obtain ⟨e1751, B1752, g1749, r1761⟩ := hI
        try dsimp only at e1751 B1752 g1749 r1761
        refine Cov.prune [(8, .int .i64 v1754), (66, .int .i64 (i1747 : Int)), (59, _), (4, _), (5, _), (57, _), (58, _), (9, _), (10, _), (64, _), (65, _)] ⟨rfl, rfl, rfl, rfl, rfl, rfl, rfl, rfl, rfl, rfl, rfl, trivial⟩ ?_;refine Cov.same (bl' := [(b48, .cells #[.int .i64 v1755, .int .i64 v1756, .int .i64 v1757, .slice a45 u37.1.2.2.2.length k46] 57 (0, 0)), (b36, .cells #[.int .i64 v1758, .slice a24 u16.1.1.2.length k25, .int .i64 v1759, .slice a27 u16.1.2.2.length k28] 31 (0, 0)), (b12, .cells #[.slice a33 u16.2.2.1.length k34, .int .i64 v1760] 74 (0, 0))]) (sl' := []) (Fs' := G1750 :: Fs) rfl rfl rfl ?_
        cases w1748 with
        | nil =>
         rw [law35_LookupTables_L4] at r1761; try dsimp only at r1761
         refine Cov.seq ?_;refine Cov.region rfl ?_;refine Cov.q .ro (.lss rfl rfl) rfl ?_;refine Cov.region_end ?_;refine Cov.seq ?_
         refine Cov.cond_dec rfl (fun c => absurd c (drop_nil g1749)) (fun _ => ?_)
         refine Cov.exit rfl ?_;refine Cov.inBlock ?_;refine Cov.region rfl ?_;refine Cov.q .ro (.addw rfl rfl) rfl ?_;refine Cov.q .ro (.move rfl) rfl ?_;refine Cov.region_end ?_
         refine Cov.prune _ ?_ (Cov.same rfl rfl rfl (hb1515 ((i1500 + 1), xs1524, G1750, v1754, v1755, v1756, v1757, v1758, v1759, v1760) ⟨(HpLe.trans e1504 e1751), B1752, (drop_succ g1502), r1761⟩ (Nat.lt_succ_self _)))
         exact ⟨rfl, (congrArg (fun z => some (Value.int .i64 z)) (idx_wrap (SlR.len s47) g1502)), rfl, rfl, rfl, rfl, trivial⟩
        | cons x1773 xs1774 =>
         have r1772 : law35_LookupTables_B4 (law35_LookupTables_L5 (law35_LookupTables_J1 u16.2.1) u16.2.1 u16.1.2.2 xs1524 (i1500 + 1)) (i1500 : Int) x1523 u16.1.2.2 (law35_LookupTables_L4 (law35_LookupTables_L5 (law35_LookupTables_J1 u16.2.1) u16.2.1 u16.1.2.2 xs1524 (i1500 + 1)) (i1500 : Int) x1523 u16.1.2.2 xs1774) x1773 v1754 v1755 v1756 v1757 v1758 v1759 v1760 = some r := r1761; clear r1761; unfold law35_LookupTables_B4 at r1772; try dsimp only at r1772
         refine Cov.seq ?_;refine Cov.region rfl ?_;refine Cov.q .ro (.lss rfl rfl) rfl ?_;refine Cov.region_end ?_;refine Cov.seq ?_
         refine Cov.cond_dec rfl (fun _ => ?_) (fun c => absurd (drop_lt g1749) c)
         refine Cov.skip ?_;refine Cov.seq ?_;refine Cov.block ?_;refine Cov.seq ?_;refine Cov.region rfl ?_
         obtain ⟨c1775, p1776, h1777⟩ := SlR.get (SlR.mono (HpLe.trans (HpLe.trans e42 e1504) e1751) s32) (drop_idx g1749)
         obtain ⟨_, _, rfl, rfl, rfl⟩ := h1777
         refine Cov.q .ro (.idxR (SlR.mono (HpLe.trans (HpLe.trans e42 e1504) e1751) s32) rfl rfl (drop_idx g1749) sl32 ty63.sz) rfl ?_;refine Cov.q .ro (.load_rp_a [_, _] p1776 List.mem_cons_self rfl ty63 rfl) rfl ?_
         refine Cov.alloc .ro ty63 rfl (fun b1778 hb1778 => ?_)
         refine Cov.store 0 [_, _] [_, _, _, _] .ro rfl rfl rfl ty63 rfl rfl rfl rfl ?_;refine Cov.region_end ?_;refine Cov.seq ?_;refine Cov.region rfl ?_;refine Cov.q .ro (.fieldAddr 0 rfl fl63_0 ty9.sz rfl) rfl ?_;refine Cov.q .ro (.load_own 0 rfl rfl ty9 rfl) rfl ?_;refine Cov.q .ro (.move rfl) rfl ?_;refine Cov.q .ro (.build [_, _, _] [(1, _)] ty67 pl67 rfl rfl) rfl ?_
         refine Cov.lit [_, _, _] [(0, _)] .ro sl68 ty67 rfl rfl rfl rfl rfl rfl (fun b1779 hb1779 => ?_)
         have o1780 : OL (Rep.pair (Rep.int .i64) (Rep.pair (Rep.sl (Rep.int .i64)) (Rep.sl (Rep.int .i64)))) G1750 [.int .i64 0, .slice a1528 x1523.length k1529, .slice none 0 0] ([(0, x1523, ([] : List Int))] : List (Int × (List Int) × (List Int))) := ((OL.cons rfl (Rep.pairI (Rep.intI .i64 0) (Rep.pairI (Rep.slI (SlR.mono e1751 s1530)) (Rep.slI (SlR.nil (Rp' := (Rep.int .i64)))))) (OL.nil (Rp' := (Rep.pair (Rep.int .i64) (Rep.pair (Rep.sl (Rep.int .i64)) (Rep.sl (Rep.int .i64))))))) :)
         refine Cov.reval 75 (n' := ([(0, x1523, ([] : List Int))] : List (Int × (List Int) × (List Int))).length) rfl rfl ?_
         refine Cov.freezeR 0 rfl rfl o1780 [] rfl B1752 (fun G1782 e1783 B1784 s1785 => ?_)
         obtain ⟨u1787, hu1787, r1788⟩ := bind_some r1772; clear r1772
         refine Cov.callS (b1 := []) (b2 := [_, _, _, _]) (s1 := []) [_, _, _] [] .ro rfl rfl Try.call18 rfl rfl (lookup_Read_c (G := G1782) List.mem_cons_self s1785 hu1787) rfl (fun v1790 bo so h1789 => ?_)
         obtain ⟨rfl, rfl, rfl⟩ := h1789
         refine Cov.same (bl' := [_, _, _, _]) (sl' := []) rfl rfl rfl ?_;refine Cov.q .ro (.move rfl) rfl ?_;refine Cov.q .ro (.extract rfl rfl) rfl ?_;refine Cov.q .ro (.extract rfl rfl) rfl ?_;refine Cov.q .ro (.extract rfl rfl) rfl ?_;refine Cov.q .ro (.assign rfl) rfl ?_;refine Cov.q .ro (.assign rfl) rfl ?_;refine Cov.q .ro (.assign rfl) rfl ?_;refine Cov.region_end ?_
         refine Cov.prune [(8, _), (66, _), (59, _), (4, _), (5, _), (57, _), (58, _), (9, _), (10, _), (64, _), (65, _), (12, _), (13, _), (14, _), (15, _)] ⟨rfl, rfl, rfl, rfl, rfl, rfl, rfl, rfl, rfl, rfl, rfl, rfl, rfl, rfl, rfl, trivial⟩ ?_;refine Cov.seq ?_;refine Cov.region rfl ?_;refine Cov.q .ro (.assign rfl) rfl ?_;refine Cov.region_end ?_;refine Cov.seq ?_;refine Cov.seq ?_;refine Cov.region rfl ?_;refine Cov.q .ro (.fieldAddr 3 rfl fl31_2 ty29.sz rfl) rfl ?_
         refine Cov.q .ro (.load_own 2 rfl rfl ty29 rfl) rfl ?_;refine Cov.q .ro (.move rfl) rfl ?_
         obtain ⟨u1791, hu1791, r1792⟩ := bind_some r1788; clear r1788
         obtain ⟨c1793, p1794, h1795⟩ := SlR.get (SlR.mono (HpLe.trans (HpLe.trans (HpLe.trans e42 e1504) e1751) e1783) s29) hu1791
         obtain ⟨a1796, k1797, rfl, s1798⟩ := h1795
         refine Cov.q .ro (.idxR (SlR.mono (HpLe.trans (HpLe.trans (HpLe.trans e42 e1504) e1751) e1783) s29) rfl rfl hu1791 sl29 ty32.sz) rfl ?_;refine Cov.q .ro (.load_rp p1794 List.mem_cons_self rfl ty32 rfl) rfl ?_;refine Cov.q .ro (.len_sl rfl rfl sl32) rfl ?_;refine Cov.q .ro (.move rfl) rfl ?_;refine Cov.region_end ?_;refine Cov.cutB (β := Bool × ByteArray × Int × Int × Int × Int × Int × Int × Int) (fun y => [(16, .bool y.1)]) [(8, _), (66, _), (59, _), (4, _), (5, _), (57, _), (58, _), (9, _), (10, _), (64, _), (65, _), (12, _), (13, _), (14, _), (15, _)] (fun y => G1782 :: Fs) (fun y => [(b1778, .cells #[.string y.2.1, .int .i64 y.2.2.1] 63 (0, 0)), (b48, .cells #[.int .i64 y.2.2.2.1, .int .i64 y.2.2.2.2.1, .int .i64 y.2.2.2.2.2.1, .slice a45 u37.1.2.2.2.length k46] 57 (0, 0)), (b36, .cells #[.int .i64 y.2.2.2.2.2.2.1, .slice a24 u16.1.1.2.length k25, .int .i64 y.2.2.2.2.2.2.2.1, .slice a27 u16.1.2.2.length k28] 31 (0, 0)), (b12, .cells #[.slice a33 u16.2.2.1.length k34, .int .i64 y.2.2.2.2.2.2.2.2] 74 (0, 0))]) [] (fun y => []) [] (fun y => (law35_LookupTables_J2 (law35_LookupTables_L4 (law35_LookupTables_L5 (law35_LookupTables_J1 u16.2.1) u16.2.1 u16.1.2.2 xs1524 (i1500 + 1)) (i1500 : Int) x1523 u16.1.2.2 xs1774) v1754 u1787.1 u1787.2.1 u1787.2.2) y.1 y.2.1 y.2.2.1 y.2.2.2.1 y.2.2.2.2.1 y.2.2.2.2.2.1 y.2.2.2.2.2.2.1 y.2.2.2.2.2.2.2.1 y.2.2.2.2.2.2.2.2 = some r) ⟨rfl, rfl, rfl, rfl, rfl, rfl, rfl, rfl, rfl, rfl, rfl, rfl, rfl, rfl, rfl, trivial⟩ [] rfl [] rfl ?_ ?_
         ·intro y hI
          obtain ⟨v1865, v1866, v1867, v1868, v1869, v1870, v1871, v1872, v1873⟩ := y
          have r1875 := hI; clear hI
          try dsimp only at r1875
          refine Cov.prune [(16, .bool v1865), (8, _), (66, _), (59, _), (4, _), (5, _), (57, _), (58, _), (9, _), (10, _), (64, _), (65, _), (12, _), (13, _), (14, _), (15, _)] ⟨rfl, rfl, rfl, rfl, rfl, rfl, rfl, rfl, rfl, rfl, rfl, rfl, rfl, rfl, rfl, rfl, trivial⟩ ?_;refine Cov.same (bl' := [(b1778, .cells #[.string v1866, .int .i64 v1867] 63 (0, 0)), (b48, .cells #[.int .i64 v1868, .int .i64 v1869, .int .i64 v1870, .slice a45 u37.1.2.2.2.length k46] 57 (0, 0)), (b36, .cells #[.int .i64 v1871, .slice a24 u16.1.1.2.length k25, .int .i64 v1872, .slice a27 u16.1.2.2.length k28] 31 (0, 0)), (b12, .cells #[.slice a33 u16.2.2.1.length k34, .int .i64 v1873] 74 (0, 0))]) (sl' := []) (Fs' := G1782 :: Fs) rfl rfl rfl ?_
          unfold law35_LookupTables_J2 at r1875
          try dsimp only at r1875
          refine Cov.seq ?_;refine Cov.seq ?_;refine Cov.region rfl ?_;refine Cov.q .ro (.move rfl) rfl ?_;refine Cov.q .ro (.neq rfl rfl) rfl ?_;refine Cov.q .ro (.move rfl) rfl ?_;refine Cov.cutR 4 (β := Unit) (fun y => [(105, .bool (decide ((u1787.2.2 ≠ 0) ∨ (u1787.2.1 ≠ v1865))))]) [(8, _), (66, _), (59, _), (4, _), (5, _), (57, _), (58, _), (9, _), (10, _), (64, _), (65, _), (12, _), (13, _), (14, _)] (fun y => G1782 :: Fs) (fun y => []) [_, _, _, _] (fun y => []) [] (fun y => True) ⟨rfl, rfl, rfl, rfl, rfl, rfl, rfl, rfl, rfl, rfl, rfl, rfl, rfl, rfl, trivial⟩ [0, 1, 2, 3] rfl [] rfl ?_ ?_
          ·rintro _ _
           refine Cov.prune [(105, .bool (decide ((u1787.2.2 ≠ 0) ∨ (u1787.2.1 ≠ v1865)))), (8, _), (66, _), (59, _), (4, _), (5, _), (57, _), (58, _), (9, _), (10, _), (64, _), (65, _), (12, _), (13, _), (14, _)] ⟨rfl, rfl, rfl, rfl, rfl, rfl, rfl, rfl, rfl, rfl, rfl, rfl, rfl, rfl, rfl, trivial⟩ ?_;refine Cov.same (bl' := [_, _, _, _]) (sl' := []) (Fs' := G1782 :: Fs) rfl rfl rfl ?_;refine Cov.q .ro (.move rfl) rfl ?_;refine Cov.cutR 8 (β := Unit) (fun y => [(114, .bool (decide (((u1787.2.2 ≠ 0) ∨ (u1787.2.1 ≠ v1865)) ∨ ((u1787.2.1 = true) ∧ (u1787.1 ≠ v1867)))))]) [(8, _), (66, _), (59, _), (4, _), (5, _), (57, _), (58, _), (9, _), (10, _), (64, _), (65, _), (14, _)] (fun y => G1782 :: Fs) (fun y => []) [_, _, _, _] (fun y => []) [] (fun y => True) ⟨rfl, rfl, rfl, rfl, rfl, rfl, rfl, rfl, rfl, rfl, rfl, rfl, trivial⟩ [0, 1, 2, 3] rfl [] rfl ?_ ?_
           ·rintro _ _
            refine Cov.prune [(114, .bool (decide (((u1787.2.2 ≠ 0) ∨ (u1787.2.1 ≠ v1865)) ∨ ((u1787.2.1 = true) ∧ (u1787.1 ≠ v1867))))), (8, _), (66, _), (59, _), (4, _), (5, _), (57, _), (58, _), (9, _), (10, _), (64, _), (65, _), (14, _)] ⟨rfl, rfl, rfl, rfl, rfl, rfl, rfl, rfl, rfl, rfl, rfl, rfl, rfl, trivial⟩ ?_;refine Cov.same (bl' := [_, _, _, _]) (sl' := []) (Fs' := G1782 :: Fs) rfl rfl rfl ?_;refine Cov.region_end ?_
            refine Cov.cond_dec rfl (fun c1902 => ?_) (fun c1902 => ?_)
            ·have r1903 := ifT r1875 c1902; clear r1875
             refine Cov.seq ?_;refine Cov.region rfl ?_;refine Cov.q .ro (.assign rfl) rfl ?_;refine Cov.region_end ?_;refine Cov.prune [(2, _)] ⟨rfl, trivial⟩ ?_
             cases r1903
             refine Cov.drop 4 0 [] _ rfl rfl ?_
             refine Cov.retS (c := ⟨5, none⟩) (.inr ⟨_, rfl⟩) [.tmp 2] [_] rfl Try.func5 Try.results5 ⟨RV.tmp rfl, trivial⟩ (fun _ h => List.mem_cons_of_mem _ h) ⟨rfl, rfl, rfl⟩
            ·have r1904 := ifF r1875 c1902; clear r1875
             refine Cov.skip ?_;refine Cov.seq ?_;refine Cov.region rfl ?_;refine Cov.q .ro (.move rfl) rfl ?_;refine Cov.region_end ?_
             refine Cov.cond rfl (fun c1905 => ?_) (fun c1905 => ?_)
             ·have r1906 := ifT r1904 c1905; clear r1904
              refine Cov.region rfl ?_;refine Cov.q .ro (.move rfl) rfl ?_;refine Cov.q .ro (.addw rfl rfl) rfl ?_;refine Cov.q .ro (.assign rfl) rfl ?_;refine Cov.region_end ?_;refine Cov.inBlock ?_;refine Cov.region rfl ?_;refine Cov.q .ro (.addw rfl rfl) rfl ?_;refine Cov.q .ro (.move rfl) rfl ?_
              refine Cov.region_end ?_;refine Cov.drop 1 0 [_, _, _] _ rfl rfl ?_
              refine Cov.prune _ ?_ (Cov.same rfl rfl rfl (hb1762 ((i1747 + 1), xs1774, G1782, (w64 (v1754 + 1)), v1868, v1869, v1870, v1871, v1872, v1873) ⟨(HpLe.trans e1751 e1783), B1784, (drop_succ g1749), r1906⟩ (Nat.lt_succ_self _)))
              exact ⟨rfl, (congrArg (fun z => some (Value.int .i64 z)) (idx_wrap (SlR.len (SlR.mono (HpLe.trans e42 e1504) s32)) g1749)), rfl, rfl, rfl, rfl, rfl, rfl, rfl, rfl, rfl, trivial⟩
             ·have r1907 := ifBF r1904 c1905; clear r1904
              refine Cov.skip ?_;refine Cov.inBlock ?_;refine Cov.region rfl ?_;refine Cov.q .ro (.addw rfl rfl) rfl ?_;refine Cov.q .ro (.move rfl) rfl ?_;refine Cov.region_end ?_;refine Cov.drop 1 0 [_, _, _] _ rfl rfl ?_
              refine Cov.prune _ ?_ (Cov.same rfl rfl rfl (hb1762 ((i1747 + 1), xs1774, G1782, v1754, v1868, v1869, v1870, v1871, v1872, v1873) ⟨(HpLe.trans e1751 e1783), B1784, (drop_succ g1749), r1907⟩ (Nat.lt_succ_self _)))
              exact ⟨rfl, (congrArg (fun z => some (Value.int .i64 z)) (idx_wrap (SlR.len (SlR.mono (HpLe.trans e42 e1504) s32)) g1749)), rfl, rfl, rfl, rfl, rfl, rfl, rfl, rfl, rfl, trivial⟩
           ·intro hb1899
            refine Cov.split 106 rfl (fun c1898 => ?_) (fun c1898 => ?_)
            ·refine Cov.g_off rfl rfl rfl ?_
             refine Cov.g_off rfl rfl rfl ?_;refine Cov.gu_off rfl rfl ?_;refine Cov.gu_off rfl rfl ?_;refine Cov.gu_off rfl rfl ?_;refine Cov.gu_off rfl rfl ?_;refine Cov.g_off rfl rfl rfl ?_;refine Cov.q .ro (.pick_t rfl rfl) rfl ?_
             refine Cov.prune _ ?_ (Cov.same rfl rfl rfl (hb1899 () trivial))
             exact ⟨dor_t c1898, rfl, rfl, rfl, rfl, rfl, rfl, rfl, rfl, rfl, rfl, rfl, rfl, trivial⟩
            ·refine Cov.g_on rfl ?_
             refine Cov.q .ro (.move rfl) rfl ?_;refine Cov.g_on rfl ?_;refine Cov.q .ro (.move rfl) rfl ?_;refine Cov.cutR 5 (β := Unit) (fun y => [(113, .bool (decide ((u1787.2.1 = true) ∧ (u1787.1 ≠ v1867))))]) [(8, _), (66, _), (59, _), (4, _), (5, _), (57, _), (58, _), (9, _), (10, _), (64, _), (65, _), (14, _), (106, _), (107, _)] (fun y => G1782 :: Fs) (fun y => []) [_, _, _, _] (fun y => []) [] (fun y => True) ⟨rfl, rfl, rfl, rfl, rfl, rfl, rfl, rfl, rfl, rfl, rfl, rfl, rfl, rfl, trivial⟩ [0, 1, 2, 3] rfl [] rfl ?_ ?_
             ·rintro _ _
              refine Cov.prune [(113, .bool (decide ((u1787.2.1 = true) ∧ (u1787.1 ≠ v1867)))), (8, _), (66, _), (59, _), (4, _), (5, _), (57, _), (58, _), (9, _), (10, _), (64, _), (65, _), (14, _), (106, _), (107, _)] ⟨rfl, rfl, rfl, rfl, rfl, rfl, rfl, rfl, rfl, rfl, rfl, rfl, rfl, rfl, rfl, trivial⟩ ?_;refine Cov.same (bl' := [_, _, _, _]) (sl' := []) (Fs' := G1782 :: Fs) rfl rfl rfl ?_;refine Cov.q .ro (.pick_f rfl rfl) rfl ?_
              refine Cov.prune _ ?_ (Cov.same rfl rfl rfl (hb1899 () trivial))
              exact ⟨dor_f c1898, rfl, rfl, rfl, rfl, rfl, rfl, rfl, rfl, rfl, rfl, rfl, rfl, trivial⟩
             ·intro hb1909
              refine Cov.split_b 108 rfl (fun c1908 => ?_) (fun c1908 => ?_)
              ·refine Cov.g_on rfl ?_
               refine Cov.q .ro (.move rfl) rfl ?_;refine Cov.g_on rfl ?_;refine Cov.q .ro (.fieldAddr 1 rfl fl63_1 ty3.sz rfl) rfl ?_;refine Cov.g_on rfl ?_;refine Cov.q .ro (.load_own 0 rfl rfl ty3 rfl) rfl ?_;refine Cov.g_on rfl ?_;refine Cov.q .ro (.neq rfl rfl) rfl ?_;refine Cov.g_on rfl ?_;refine Cov.q .ro (.pick_t rfl rfl) rfl ?_
               refine Cov.prune _ ?_ (Cov.same rfl rfl rfl (hb1909 () trivial))
               exact ⟨dand_t c1908, rfl, rfl, rfl, rfl, rfl, rfl, rfl, rfl, rfl, rfl, rfl, rfl, rfl, rfl, trivial⟩
              ·refine Cov.g_off rfl rfl rfl ?_
               refine Cov.g_off rfl rfl rfl ?_;refine Cov.g_off rfl rfl rfl ?_;refine Cov.g_off rfl rfl rfl ?_;refine Cov.g_on rfl ?_;refine Cov.q .ro (.pick_f rfl rfl) rfl ?_
               refine Cov.prune _ ?_ (Cov.same rfl rfl rfl (hb1909 () trivial))
               exact ⟨dand_f (bne_of c1908), rfl, rfl, rfl, rfl, rfl, rfl, rfl, rfl, rfl, rfl, rfl, rfl, rfl, rfl, trivial⟩
          ·intro hb1891
           refine Cov.split 101 rfl (fun c1890 => ?_) (fun c1890 => ?_)
           ·refine Cov.g_off rfl rfl rfl ?_
            refine Cov.g_off rfl rfl rfl ?_;refine Cov.g_off rfl rfl rfl ?_;refine Cov.q .ro (.pick_t rfl rfl) rfl ?_
            refine Cov.prune _ ?_ (Cov.same rfl rfl rfl (hb1891 () trivial))
            exact ⟨dor_t c1890, rfl, rfl, rfl, rfl, rfl, rfl, rfl, rfl, rfl, rfl, rfl, rfl, rfl, rfl, trivial⟩
           ·refine Cov.g_on rfl ?_
            refine Cov.q .ro (.move rfl) rfl ?_;refine Cov.g_on rfl ?_;refine Cov.q .ro (.move rfl) rfl ?_;refine Cov.g_on rfl ?_;refine Cov.q .ro (.neq_b Try.underlying4 rfl rfl) rfl ?_;refine Cov.q .ro (.pick_f rfl rfl) rfl ?_
            refine Cov.prune _ ?_ (Cov.same rfl rfl rfl (hb1891 () trivial))
            exact ⟨dor_f c1890, rfl, rfl, rfl, rfl, rfl, rfl, rfl, rfl, rfl, rfl, rfl, rfl, rfl, rfl, trivial⟩
         ·intro hb1912
          refine Cov.block ?_
          refine Cov.loop2 (α := Nat × (List (ByteArray × Int)) × Bool) (fun y => [(16, .bool y.2.2), (86, .int .i64 (y.1 : Int))]) [(8, _), (66, _), (59, _), (4, _), (5, _), (57, _), (58, _), (9, _), (10, _), (64, _), (65, _), (12, _), (13, _), (14, _), (15, _), (84, _), (85, _)] (fun y => []) (fun y => []) [_, _, _, _] (fun y => []) [] (fun y => List.drop y.1 u1791 = y.2.1 ∧ law35_LookupTables_L3 (law35_LookupTables_J2 (law35_LookupTables_L4 (law35_LookupTables_L5 (law35_LookupTables_J1 u16.2.1) u16.2.1 u16.1.2.2 xs1524 (i1500 + 1)) (i1500 : Int) x1523 u16.1.2.2 xs1774) v1754 u1787.1 u1787.2.1 u1787.2.2) x1773.1 x1773.2 v1755 v1756 v1757 v1758 v1759 v1760 y.2.1 y.2.2 = some r) (fun y => y.2.1.length) (0, u1791, false) ⟨rfl, r1792⟩ ⟨rfl, rfl, rfl, rfl, rfl, rfl, rfl, rfl, rfl, rfl, rfl, rfl, rfl, rfl, rfl, rfl, rfl, rfl, rfl, trivial⟩ rfl rfl rfl (fun y hI hb1943 => ?_)
          obtain ⟨i1938, w1939, v1941⟩ := y
          obtain ⟨g1940, r1942⟩ := hI
          try dsimp only at g1940 r1942
          refine Cov.prune [(16, .bool v1941), (86, .int .i64 (i1938 : Int)), (8, _), (66, _), (59, _), (4, _), (5, _), (57, _), (58, _), (9, _), (10, _), (64, _), (65, _), (12, _), (13, _), (14, _), (15, _), (84, _), (85, _)] ⟨rfl, rfl, rfl, rfl, rfl, rfl, rfl, rfl, rfl, rfl, rfl, rfl, rfl, rfl, rfl, rfl, rfl, rfl, rfl, trivial⟩ ?_;refine Cov.same (bl' := [_, _, _, _]) (sl' := []) (Fs' := G1782 :: Fs) rfl rfl rfl ?_
          cases w1939 with
          | nil =>
           rw [law35_LookupTables_L3] at r1942; try dsimp only at r1942
           refine Cov.seq ?_;refine Cov.region rfl ?_;refine Cov.q .ro (.lss rfl rfl) rfl ?_;refine Cov.region_end ?_;refine Cov.seq ?_
           refine Cov.cond_dec rfl (fun c => absurd c (drop_nil g1940)) (fun _ => ?_)
           refine Cov.exit rfl ?_
           refine Cov.prune _ ?_ (Cov.same rfl rfl rfl (hb1912 (v1941, x1773.1, x1773.2, v1755, v1756, v1757, v1758, v1759, v1760) r1942))
           exact ⟨rfl, rfl, rfl, rfl, rfl, rfl, rfl, rfl, rfl, rfl, rfl, rfl, rfl, rfl, rfl, rfl, trivial⟩
          | cons x1969 xs1970 =>
           have r1968 : law35_LookupTables_B3 (law35_LookupTables_J2 (law35_LookupTables_L4 (law35_LookupTables_L5 (law35_LookupTables_J1 u16.2.1) u16.2.1 u16.1.2.2 xs1524 (i1500 + 1)) (i1500 : Int) x1523 u16.1.2.2 xs1774) v1754 u1787.1 u1787.2.1 u1787.2.2) x1773.1 x1773.2 v1755 v1756 v1757 v1758 v1759 v1760 (law35_LookupTables_L3 (law35_LookupTables_J2 (law35_LookupTables_L4 (law35_LookupTables_L5 (law35_LookupTables_J1 u16.2.1) u16.2.1 u16.1.2.2 xs1524 (i1500 + 1)) (i1500 : Int) x1523 u16.1.2.2 xs1774) v1754 u1787.1 u1787.2.1 u1787.2.2) x1773.1 x1773.2 v1755 v1756 v1757 v1758 v1759 v1760 xs1970) x1969 v1941 = some r := r1942; clear r1942; unfold law35_LookupTables_B3 at r1968; try dsimp only at r1968
           refine Cov.seq ?_;refine Cov.region rfl ?_;refine Cov.q .ro (.lss rfl rfl) rfl ?_;refine Cov.region_end ?_;refine Cov.seq ?_
           refine Cov.cond_dec rfl (fun _ => ?_) (fun c => absurd (drop_lt g1940) c)
           refine Cov.skip ?_;refine Cov.seq ?_;refine Cov.block ?_;refine Cov.seq ?_;refine Cov.region rfl ?_
           obtain ⟨c1971, p1972, h1973⟩ := SlR.get s1798 (drop_idx g1940)
           obtain ⟨_, _, rfl, rfl, rfl⟩ := h1973
           refine Cov.q .ro (.idxR s1798 rfl rfl (drop_idx g1940) sl32 ty63.sz) rfl ?_;refine Cov.q .ro (.load_rp_a [_, _] p1972 List.mem_cons_self rfl ty63 rfl) rfl ?_
           refine Cov.alloc .ro ty63 rfl (fun b1974 hb1974 => ?_)
           refine Cov.store 0 [_, _] [_, _, _, _, _] .ro rfl rfl rfl ty63 rfl rfl rfl rfl ?_;refine Cov.region_end ?_;refine Cov.region rfl ?_;refine Cov.q .ro (.move rfl) rfl ?_;refine Cov.q .ro (.move rfl) rfl ?_;refine Cov.cutR 6 (β := Unit) (fun y => [(97, .bool (decide ((v1941 = true) ∨ (x1969.1 = x1773.1))))]) [(16, _), (86, _), (8, _), (66, _), (59, _), (4, _), (5, _), (57, _), (58, _), (9, _), (10, _), (64, _), (65, _), (12, _), (13, _), (14, _), (15, _), (84, _), (85, _)] (fun y => G1782 :: Fs) (fun y => []) [_, _, _, _, _] (fun y => []) [] (fun y => True) ⟨rfl, rfl, rfl, rfl, rfl, rfl, rfl, rfl, rfl, rfl, rfl, rfl, rfl, rfl, rfl, rfl, rfl, rfl, rfl, trivial⟩ [0, 1, 2, 3, 4] rfl [] rfl ?_ ?_
           ·rintro _ _
            refine Cov.prune [(97, .bool (decide ((v1941 = true) ∨ (x1969.1 = x1773.1)))), (16, _), (86, _), (8, _), (66, _), (59, _), (4, _), (5, _), (57, _), (58, _), (9, _), (10, _), (64, _), (65, _), (12, _), (13, _), (14, _), (15, _), (84, _), (85, _)] ⟨rfl, rfl, rfl, rfl, rfl, rfl, rfl, rfl, rfl, rfl, rfl, rfl, rfl, rfl, rfl, rfl, rfl, rfl, rfl, rfl, trivial⟩ ?_;refine Cov.same (bl' := [_, _, _, _, _]) (sl' := []) (Fs' := G1782 :: Fs) rfl rfl rfl ?_;refine Cov.q .ro (.assign rfl) rfl ?_;refine Cov.region_end ?_;refine Cov.inBlock ?_;refine Cov.region rfl ?_;refine Cov.q .ro (.addw rfl rfl) rfl ?_;refine Cov.q .ro (.move rfl) rfl ?_;refine Cov.region_end ?_
            refine Cov.drop 1 0 [_, _, _, _] _ rfl rfl ?_
            refine Cov.prune _ ?_ (Cov.same rfl rfl rfl (hb1943 ((i1938 + 1), xs1970, (decide ((v1941 = true) ∨ (x1969.1 = x1773.1)))) ⟨(drop_succ g1940), r1968⟩ (Nat.lt_succ_self _)))
            exact ⟨rfl, (congrArg (fun z => some (Value.int .i64 z)) (idx_wrap (SlR.len s1798) g1940)), rfl, rfl, rfl, rfl, rfl, rfl, rfl, rfl, rfl, rfl, rfl, rfl, rfl, rfl, rfl, rfl, rfl, trivial⟩
           ·intro hb1976
            refine Cov.split_b 91 rfl (fun c1975 => ?_) (fun c1975 => ?_)
            ·refine Cov.g_off rfl rfl rfl ?_
             refine Cov.g_off rfl rfl rfl ?_;refine Cov.g_off rfl rfl rfl ?_;refine Cov.g_off rfl rfl rfl ?_;refine Cov.g_off rfl rfl rfl ?_;refine Cov.q .ro (.pick_t rfl rfl) rfl ?_
             refine Cov.prune _ ?_ (Cov.same rfl rfl rfl (hb1976 () trivial))
             exact ⟨dor_t c1975, rfl, rfl, rfl, rfl, rfl, rfl, rfl, rfl, rfl, rfl, rfl, rfl, rfl, rfl, rfl, rfl, rfl, rfl, rfl, trivial⟩
            ·refine Cov.g_on rfl ?_
             refine Cov.q .ro (.fieldAddr 0 rfl fl63_0 ty9.sz rfl) rfl ?_;refine Cov.g_on rfl ?_;refine Cov.q .ro (.load_own 0 rfl rfl ty9 rfl) rfl ?_;refine Cov.g_on rfl ?_;refine Cov.q .ro (.fieldAddr 0 rfl fl63_0 ty9.sz rfl) rfl ?_;refine Cov.g_on rfl ?_;refine Cov.q .ro (.load_own 1 rfl rfl ty9 rfl) rfl ?_;refine Cov.g_on rfl ?_;refine Cov.q .ro (.eql_s rfl rfl) rfl ?_
             refine Cov.q .ro (.pick_f rfl rfl) rfl ?_
             refine Cov.prune _ ?_ (Cov.same rfl rfl rfl (hb1976 () trivial))
             exact ⟨dor_f (bne_of c1975), rfl, rfl, rfl, rfl, rfl, rfl, rfl, rfl, rfl, rfl, rfl, rfl, rfl, rfl, rfl, rfl, rfl, rfl, rfl, trivial⟩
    ·intro hb69
     refine Cov.split_b 51 rfl (fun c68 => ?_) (fun c68 => ?_)
     ·have r1979 := ifT h71 c68
      refine Cov.dgq_off rfl rfl rfl ?_;refine Cov.dge_offL rfl rfl rfl (HpLe.refl _) (pick_mem [0, 1, 2] rfl) ?_;refine Cov.dgq_off rfl rfl rfl ?_;refine Cov.dq (.pick_t rfl rfl) rfl ?_
      refine Cov.prune _ ?_ (Cov.same rfl rfl rfl (hb69 () trivial))
      exact ⟨sval r1979, rfl, rfl, rfl, trivial⟩
     ·have r1980 := ifBF h71 c68
      refine Cov.dgq_on rfl ?_;refine Cov.dq (.load_own_a 0 [_, _, _, _] rfl rfl ty57 rfl) rfl ?_;refine Cov.dge_on rfl ?_
      obtain ⟨u1981, hu1981, r1982⟩ := bind_some r1980; clear r1980
      refine Cov.callS (b1 := []) (b2 := [_, _, _]) (s1 := []) [_] [] .d1 rfl rfl Try.call17 rfl rfl (ref14_Check_c (G := G41) List.mem_cons_self s47 hu1981) rfl (fun v1984 bo so h1983 => ?_)
      obtain ⟨rfl, rfl, rfl⟩ := h1983
      refine Cov.same (bl' := [_, _, _]) (sl' := []) rfl rfl rfl ?_;refine Cov.clsL (HpLe.refl _) (pick_mem [0, 1, 2] rfl) ?_;refine Cov.dgq_on rfl ?_;refine Cov.dq (.neq rfl rfl) rfl ?_;refine Cov.dq (.pick_f rfl rfl) rfl ?_
      refine Cov.prune _ ?_ (Cov.same rfl rfl rfl (hb69 () trivial))
      exact ⟨sval r1982, rfl, rfl, rfl, trivial⟩
   ·intro hb58
    refine Cov.split 45 rfl (fun c57 => ?_) (fun c57 => ?_)
    ·have r1985 := ifT h60 c57
     refine Cov.dgq_off rfl rfl rfl ?_;refine Cov.dgq_off rfl rfl rfl ?_;refine Cov.dge_offL rfl rfl rfl (HpLe.refl _) (pick_mem [0, 1, 2] rfl) ?_;refine Cov.dgq_off rfl rfl rfl ?_;refine Cov.dq (.pick_t rfl rfl) rfl ?_
     refine Cov.prune _ ?_ (Cov.same rfl rfl rfl (hb58 () trivial))
     exact ⟨sval r1985, rfl, rfl, rfl, trivial⟩
    ·have r1986 := ifF h60 c57
     refine Cov.dgq_on rfl ?_;refine Cov.dq (.fieldAddr 2 rfl fl57_2 ty3.sz rfl) rfl ?_;refine Cov.dgq_on rfl ?_;refine Cov.dq (.load_own 0 rfl rfl ty3 rfl) rfl ?_;refine Cov.dge_on rfl ?_
     obtain ⟨u1987, hu1987, r1988⟩ := bind_some r1986; clear r1986
     refine Cov.callS (b1 := []) (b2 := [_, _, _]) (s1 := []) [_] [] .d1 rfl rfl Try.call16 rfl rfl (lookup_Width_c (G := G41) List.mem_cons_self  hu1987) rfl (fun v1990 bo so h1989 => ?_)
     obtain ⟨rfl, rfl, rfl⟩ := h1989
     refine Cov.same (bl' := [_, _, _]) (sl' := []) rfl rfl rfl ?_;refine Cov.clsL (HpLe.refl _) (pick_mem [0, 1, 2] rfl) ?_;refine Cov.dgq_on rfl ?_;refine Cov.dq (.neq rfl rfl) rfl ?_;refine Cov.dq (.pick_f rfl rfl) rfl ?_
     refine Cov.prune _ ?_ (Cov.same rfl rfl rfl (hb58 () trivial))
     exact ⟨sval r1988, rfl, rfl, rfl, trivial⟩
  ·intro hb50
   refine Cov.split 36 rfl (fun c49 => ?_) (fun c49 => ?_)
   ·refine Cov.dgq_off rfl rfl rfl ?_
    refine Cov.dgq_off rfl rfl rfl ?_;refine Cov.dgq_off rfl rfl rfl ?_;refine Cov.dgq_off rfl rfl rfl ?_;refine Cov.dgq_off rfl rfl rfl ?_;refine Cov.dgq_off rfl rfl rfl ?_;refine Cov.dgq_off rfl rfl rfl ?_;refine Cov.dq (.pick_t rfl rfl) rfl ?_
    refine Cov.prune _ ?_ (Cov.same rfl rfl rfl (hb50 () trivial))
    exact ⟨dor_t c49, rfl, rfl, rfl, trivial⟩
   ·refine Cov.dgq_on rfl ?_
    refine Cov.dq (.fieldAddr 3 rfl fl57_3 ty55.sz rfl) rfl ?_;refine Cov.dgq_on rfl ?_;refine Cov.dq (.load_own 0 rfl rfl ty55 rfl) rfl ?_;refine Cov.dgq_on rfl ?_;refine Cov.dq (.len_sl rfl rfl sl55) rfl ?_;refine Cov.dgq_on rfl ?_;refine Cov.dq (.fieldAddr 0 rfl fl31_0 ty28.sz rfl) rfl ?_;refine Cov.dgq_on rfl ?_;refine Cov.dq (.fieldAddr 0 rfl fl28_0 ty3.sz rfl) rfl ?_
    refine Cov.dgq_on rfl ?_;refine Cov.dq (.load_own 1 rfl rfl ty3 rfl) rfl ?_;refine Cov.dgq_on rfl ?_;refine Cov.dq (.neq rfl rfl) rfl ?_;refine Cov.dq (.pick_f rfl rfl) rfl ?_
    refine Cov.prune _ ?_ (Cov.same rfl rfl rfl (hb50 () trivial))
    exact ⟨dor_f c49, rfl, rfl, rfl, trivial⟩
end Go.Proofs.Ytmfppphlhgneeaa
end

section
namespace Go.Proofs.Ytmfppphlhgneeaa
set_option linter.unusedVariables false
def cuckoo_placing_place_B1 (rec9999 : ((List (List Int)) × (List Int) × (List Bool)) → Int → (List Bool) → Option (Bool × (List Int) × (List Bool))) (z130 : Int) (z133 : List (List Int)) (z134 : List Bool) (rec112 : (List Bool) → (List Int) → Option (Bool × (List Int) × (List Bool))) (x136 : Int) (v116 : List Bool) (v122 : List Int) : Option (Bool × (List Int) × (List Bool)) :=
  (lidx v116 x136).bind fun u141 => (if (u141 = true) then (some true) else (lidx z134 x136).bind fun u226 => some u226).bind fun u153 => if (u153 = true) then (rec112 v116 v122) else
(lidx v122 x136).bind fun u161 => if (u161 < 0) then ((lidx v122 x136).bind fun u168 => (lupd v122 x136 z130).bind fun u173 => some (true, u173, v116)) else
(lidx v116 x136).bind fun u180 => (lupd v116 x136 true).bind fun u185 => (lidx v122 x136).bind fun u191 => (rec9999 (z133, v122, z134) u191 u185).bind fun u196 => if (u196.1 = true) then ((lidx u196.2.1 x136).bind fun u212 => (lupd u196.2.1 x136 z130).bind fun u217 => some (true, u217, u196.2.2)) else
 rec112 u196.2.2 u196.2.1
def cuckoo_placing_place_L1 (rec9999 : ((List (List Int)) × (List Int) × (List Bool)) → Int → (List Bool) → Option (Bool × (List Int) × (List Bool))) (z130 : Int) (z133 : List (List Int)) (z134 : List Bool) : (List Int) → (List Bool) → (List Int) → Option (Bool × (List Int) × (List Bool))
  | [], v116, v122 => some (false, v122, v116)
  | x136 :: xs, v116, v122 => cuckoo_placing_place_B1 rec9999 z130 z133 z134 (cuckoo_placing_place_L1 rec9999 z130 z133 z134 xs) x136 v116 v122
def cuckoo_placing_place_B2 (rec9999 : ((List (List Int)) × (List Int) × (List Bool)) → Int → (List Bool) → Option (Bool × (List Int) × (List Bool))) (x0 : ((List (List Int)) × (List Int) × (List Bool))) (x1 : Int) (x2 : (List Bool)) : Option (Bool × (List Int) × (List Bool)) :=
  (lidx x0.1 x1).bind fun u4 => cuckoo_placing_place_L1 rec9999 x1 x0.1 x0.2.2 u4 x2 x0.2.1
def cuckoo_placing_place_R : Nat → ((List (List Int)) × (List Int) × (List Bool)) → Int → (List Bool) → Option (Bool × (List Int) × (List Bool))
  | 0, _, _, _ => none
  | n + 1, x0, x1, x2 => cuckoo_placing_place_B2 (cuckoo_placing_place_R n) x0 x1 x2
end Go.Proofs.Ytmfppphlhgneeaa
end

section
namespace Go.Proofs.Ytmfppphlhgneeaa
def stp (b : Int) : Nat → Int → Nat
  | 0, _ => 1
  | k + 1, n => if n ≤ b then 1 else 1 + stp b k ((n + b - 1) / b)
def st (b n : Int) : Nat := stp b 256 n
end Go.Proofs.Ytmfppphlhgneeaa
end

section
namespace Go.Proofs.Ytmfppphlhgneeaa
theorem nz_ok {y : Int} (h : y ≠ 0) : nz y = some () := by unfold nz; rw [if_neg h]
theorem lidx_ok {α : Type} {l : List α} {i : Int} (d : α) (h0 : 0 ≤ i) (h1 : i < l.length) : lidx l i = some (l.getD i.toNat d) := by
  refine lidx_of h0 ?_
  rw [List.getD_eq_getElem?_getD]
  have : i.toNat < l.length := by omega
  simp [this]
theorem lidx_nat {α : Type} {l : List α} {i : Nat} (d : α) (h1 : i < l.length) : lidx l (i : Int) = some (l.getD i d) := by
  rw [lidx_ok d (by omega) (by omega), Int.toNat_natCast]
theorem lapp_ok {α : Type} {l m : List α} (h : l.length + m.length ≤ 16777216) : lapp l m = some (l ++ m) := by unfold lapp; rw [if_pos h]
theorem lsub_ok {α : Type} {l : List α} {i j : Int} (h0 : 0 ≤ i) (h1 : i ≤ j) (h2 : j ≤ l.length) : lsub l i j = some ((l.drop i.toNat).take (j - i).toNat) := by unfold lsub; rw [if_pos ⟨h0, h1, h2⟩]
theorem lupd_ok {α : Type} {l : List α} {i : Int} {y : α} (h0 : 0 ≤ i) (h1 : i < l.length) : lupd l i y = some (l.set i.toNat y) := by unfold lupd; rw [if_pos ⟨h0, h1⟩]
end Go.Proofs.Ytmfppphlhgneeaa
end

section
namespace Go.Proofs.Ytmfppphlhgneeaa
abbrev gd (l : List ByteArray) (i : Nat) : ByteArray := l.getD i ByteArray.empty
def okAt (l : List ByteArray) (i : Nat) : Prop := (1 ≤ (gd l i).size ∧ (gd l i).size ≤ 32) ∧ (i = 0 ∨ sLt (gd l (i - 1)) (gd l i))
instance (l : List ByteArray) (i : Nat) : Decidable (okAt l i) := by unfold okAt; infer_instance
def AscF (l : List ByteArray) (i : Nat) : Prop := ∀ j, j < l.length → i ≤ j → okAt l j
instance (l : List ByteArray) (i : Nat) : Decidable (AscF l i) := by unfold AscF; infer_instance
def AscP (l : List ByteArray) : Prop := ∀ j, j < l.length → okAt l j
instance (l : List ByteArray) : Decidable (AscP l) := by unfold AscP; infer_instance
def KeyP (w : ByteArray) : Prop := 1 ≤ w.size ∧ w.size ≤ 32
instance (w : ByteArray) : Decidable (KeyP w) := by unfold KeyP; infer_instance
theorem nb_t {p : Prop} [Decidable p] (h : p) : ¬ ((!decide p) = true) := by simp [h]
theorem nb_f {p : Prop} [Decidable p] (h : ¬ p) : (!decide p) = true := by simp [h]
theorem proper_eq (w : ByteArray) : fence_proper w = some (decide (KeyP w)) := by
  unfold fence_proper; exact congrArg some (decide_eq_decide.2 (by unfold KeyP; omega))
theorem key_eq (w : ByteArray) : ref20_Key w = some (decide (KeyP w)) := by
  unfold ref20_Key; exact congrArg some (decide_eq_decide.2 (by unfold KeyP; omega))
theorem drop_gd {l xs : List ByteArray} {x : ByteArray} {i : Nat} (h : l.drop i = x :: xs) : i < l.length ∧ x = gd l i := by
  have h1 := drop_lt h
  have h2 := drop_idx h
  rw [lidx_nat .empty (by omega)] at h2
  exact ⟨by omega, (Option.some.inj h2).symm⟩
theorem asc_L {z : List ByteArray} (hz : z.length ≤ 10000000) : ∀ (xs : List ByteArray) (i : Nat), z.drop i = xs → fence_ascend_L1 z xs i = some (decide (AscF z i))
  | [], i, h => by
    have := drop_nil h
    show some true = _
    congr 1
    exact (decide_eq_true (fun j h1 h2 => by omega)).symm
  | x :: xs, i, h => by
    obtain ⟨hi, rfl⟩ := drop_gd h
    show fence_ascend_B1 z (fence_ascend_L1 z xs (i + 1)) (gd z i) i = _
    unfold fence_ascend_B1
    rw [asc_L hz xs (i + 1) (drop_succ h), proper_eq]
    simp only [Option.bind_some]
    have e2 : (if (0 < (i : Int)) then ((lidx z (w64 ((i : Int) - 1))).bind fun u127 => some (decide (¬ sLt u127 (gd z i)))) else some false) = some (decide (i ≠ 0 ∧ ¬ sLt (gd z (i - 1)) (gd z i))) := by
      by_cases h0 : i = 0
      · rw [if_neg (by omega)]; simp [h0]
      · rw [if_pos (by omega), w64_id (by omega) (by omega), show ((i : Int) - 1) = ((i - 1 : Nat) : Int) by omega, lidx_nat .empty (by omega)]
        simp [h0]
    rw [e2]
    simp only [Option.bind_some]
    have e3 : (if (!decide (KeyP (gd z i))) = true then some true else some (decide (i ≠ 0 ∧ ¬ sLt (gd z (i - 1)) (gd z i)))) = some (decide (¬ okAt z i)) := by
      by_cases hk : KeyP (gd z i)
      · rw [if_neg (nb_t hk)]
        congr 1
        rw [decide_eq_decide]
        unfold okAt
        constructor
        · rintro ⟨h1, h2⟩ ⟨_, h3 | h3⟩
          · exact h1 h3
          · exact h2 h3
        · intro h1
          exact ⟨fun h2 => h1 ⟨hk, .inl h2⟩, fun h2 => h1 ⟨hk, .inr h2⟩⟩
      · rw [if_pos (nb_f hk)]
        congr 1
        exact (decide_eq_true (p := ¬ okAt z i) (fun h1 => hk h1.1)).symm
    rw [e3]
    simp only [Option.bind_some]
    by_cases ok : okAt z i
    · rw [if_neg (by simp [ok])]
      congr 1
      rw [decide_eq_decide]
      constructor
      · intro h1 j h2 h3
        rcases Nat.eq_or_lt_of_le h3 with rfl | h4
        · exact ok
        · exact h1 j h2 h4
      · exact fun h1 j h2 h3 => h1 j h2 (by omega)
    · rw [if_pos (by simp [ok])]
      congr 1
      exact (decide_eq_false (fun h1 => ok (h1 i hi (Nat.le_refl _)))).symm
theorem ascend_eq {z : List ByteArray} (hz : z.length ≤ 10000000) : fence_ascend z = some (decide (AscP z)) := by
  unfold fence_ascend
  rw [asc_L hz z 0 rfl]
  congr 1
  rw [decide_eq_decide]
  exact ⟨fun h j h1 => h j h1 (by omega), fun h j h1 _ => h j h1⟩
def FenP (f : Int × List ByteArray) : Prop := ((2 ≤ f.1 ∧ f.1 ≤ 8) ∧ 1 ≤ f.2.length ∧ f.2.length ≤ 256) ∧ AscP f.2
instance (f : Int × List ByteArray) : Decidable (FenP f) := by unfold FenP; infer_instance
theorem asc_lt {l : List ByteArray} (h : AscP l) : ∀ {j i : Nat}, i < j → j < l.length → sLt (gd l i) (gd l j)
  | 0, i, h0, _ => by omega
  | j + 1, i, h0, h1 => by
    rcases (h (j + 1) h1).2 with h2 | h2
    · omega
    · simp only [Nat.add_sub_cancel] at h2
      rcases Nat.lt_or_ge i j with h3 | h3
      · exact sLt_trans (asc_lt h h3 (by omega)) h2
      · obtain rfl : i = j := by omega
        exact h2
end Go.Proofs.Ytmfppphlhgneeaa
end

section
namespace Go.Proofs.Ytmfppphlhgneeaa
abbrev gl (L : List (List ByteArray)) (i : Nat) : List ByteArray := L.getD i []
end Go.Proofs.Ytmfppphlhgneeaa
end

section
namespace Go.Proofs.Ytmfppphlhgneeaa
def bk (L : List (List ByteArray)) : Nat → List (Int × List ByteArray)
  | 0 => []
  | m + 1 => ((m : Int), gl L m) :: bk L m
end Go.Proofs.Ytmfppphlhgneeaa
end

section
namespace Go.Proofs.Ytmfppphlhgneeaa
set_option linter.unusedVariables false
def DiceOK (d : List Int × Int) : Prop := 0 ≤ d.2 ∧ d.2 ≤ 1000 ∧ d.1.length ≤ 300 ∧ ∀ x ∈ d.1, 0 ≤ x ∧ x ≤ 255
theorem dpick {d : List Int × Int} (hd : DiceOK d) {n : Int} (hn : 1 ≤ n) : ∃ v e, play_Dice_Pick d n = some (v, e) ∧ 0 ≤ v ∧ v < n ∧ DiceOK e := by
  obtain ⟨h1, h2, h3, h4⟩ := hd
  unfold play_Dice_Pick
  by_cases hl : (d.1.length : Int) ≤ d.2
  · rw [if_pos hl]; exact ⟨0, d, rfl, by omega, by omega, h1, h2, h3, h4⟩
  · rw [if_neg hl, w64_id (x := d.2 + 1) (by omega) (by omega), show d.2 + 1 - 1 = d.2 from by omega, w64_id (x := d.2) (by omega) (by omega), lidx_ok 0 h1 (by omega), Option.bind_some, nz_ok (by omega), Option.bind_some]
    generalize hx : d.1.getD d.2.toNat 0 = x
    have hm : x ∈ d.1 := by
      rw [← hx, List.getD_eq_getElem?_getD, List.getElem?_eq_getElem (by omega)]
      exact List.getElem_mem _
    have hxr := h4 x hm
    rw [w64_id (x := x) (by omega) (by omega)]
    exact ⟨_, _, rfl, Int.tmod_nonneg _ (by omega), Int.tmod_lt_of_pos _ (by omega), by dsimp only; omega, by dsimp only; omega, h3, h4⟩
theorem dnew {t : List Int} (ht : ∀ x ∈ t, 0 ≤ x ∧ x ≤ 255) : ∃ d, play_New t = some d ∧ DiceOK d := by
  unfold play_New play_New_J1
  by_cases hl : 300 < (t.length : Int)
  · rw [if_pos hl, lsub_ok (by omega) (by omega) (by omega), Option.bind_some]
    refine ⟨_, rfl, by dsimp only; omega, by dsimp only; omega, ?_, fun x hx => ht x ?_⟩
    · simp; omega
    · simp only [Int.toNat_zero, List.drop_zero] at hx
      exact List.mem_of_mem_take hx
  · rw [if_neg hl]
    exact ⟨_, rfl, by dsimp only; omega, by dsimp only; omega, by dsimp only; omega, ht⟩
end Go.Proofs.Ytmfppphlhgneeaa
end

section
namespace Go.Proofs.Ytmfppphlhgneeaa
set_option linter.unusedVariables false
set_option maxRecDepth 100000
theorem lmk_ok {α : Type} {n : Int} {z : α} (h0 : 0 ≤ n) (h1 : n ≤ 16777216) : lmk n z = some (List.replicate n.toNat z) := by unfold lmk; rw [if_pos ⟨h0, h1⟩]
theorem sane35 : law35_sane = some true := by kernel_rfl
end Go.Proofs.Ytmfppphlhgneeaa
end
