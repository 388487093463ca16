/- What the proof needs, gathered by wip/gen/shake.py. -/
import Derived.Calls
import Derived.Deep.Quiet
import Derived.Below
import Derived.Laws.AppendOwn
import Derived.WalkKit
import Derived.Laws.OwnMore
import Derived.Deep.Slices
import Derived.ChangeOld
import Derived.ArgAppend
import Derived.RangeFuncIn
import Derived.RangeFuncRecord
import Derived.RangeFuncLeaves
import Derived.Laws.MakeOwn
import Derived.IntWalk
import Derived.Laws.IdiomStrings
import Derived.Laws.Cover3
import Derived.Laws.CopyOwn
import Derived.MapKept
import Derived.RangeFuncNested
import Derived.Test.YtmfppphlhgneeaaRows
import Derived.ProofKit
import Derived.OpenShut
import Derived.ShutString
import Derived.Test.YtmfppphlhgneeaaLookupTablesQ5

section
namespace Go.Proofs.Ytmfppphlhgneeaa
open Go.RowKit
set_option linter.unusedSimpArgs false
set_option linter.unusedVariables false
set_option synthInstance.maxSize 2000
set_option synthInstance.maxHeartbeats 400000
set_option maxHeartbeats 4000000 in
set_option maxRecDepth 100000 in
theorem law35_LookupTables_c {Fs : List Hp} {G : Hp} {a0 : Option Addr} {k0 : Nat} {x0 : List Int} {r : Bool} (hG : G ∈ Fs) (s0 : SlR (Rep.int .u8) G a0 k0 x0) (h : law35_LookupTables x0 = some r) : RetS Try.prog 5 #[.slice a0 x0.length k0] Fs [] [] (fun v bo so => v = .bool r ∧ bo = [] ∧ so = []) := by
  unfold law35_LookupTables at h
  try dsimp only at h
  refine RetS.of (vs := [_]) Try.func5 rfl Try.ntmps5 [(0, _)] ⟨rfl, trivial⟩ rfl hG fun w0 S0 hS0 B0 => ?_
  refine Cov.seq ?_
  refine Cov.region rfl ?_
  refine Cov.q .ro (.assign rfl) rfl ?_
  refine Cov.region_end ?_
  refine Cov.seq ?_
  refine Cov.seq ?_
  refine Cov.region rfl ?_
  obtain ⟨u1, hu1, r2⟩ := bind_some h; clear h
  refine Cov.callS (b1 := []) (b2 := []) (s1 := []) [] [] .ro rfl rfl Try.call6 rfl rfl (law35_sane_c (G := G) List.mem_cons_self  hu1) rfl (fun v4 bo so h3 => ?_)
  obtain ⟨rfl, rfl, rfl⟩ := h3
  refine Cov.same (bl' := []) (sl' := []) rfl rfl rfl ?_
  refine Cov.q .ro (.not rfl) rfl ?_
  refine Cov.region_end ?_
  refine Cov.cond rfl (fun c5 => ?_) (fun c5 => ?_)
  · have r6 := ifT r2 c5; clear r2
    refine Cov.seq ?_
    refine Cov.region rfl ?_
    refine Cov.q .ro (.assign rfl) rfl ?_
    refine Cov.region_end ?_
    cases r6
    refine Cov.retS (c := ⟨5, none⟩) (.inr ⟨_, rfl⟩) [.tmp 2] [_] rfl Try.func5 Try.results5 ⟨RV.tmp rfl, trivial⟩ (fun _ h => List.mem_cons_of_mem _ h) ⟨rfl, rfl, rfl⟩
  · have r7 := ifBF r2 c5; clear r2
    refine Cov.skip ?_
    refine Cov.seq ?_
    refine Cov.region rfl ?_
    refine Cov.q .ro (.move rfl) rfl ?_
    obtain ⟨u8, hu8, r9⟩ := bind_some r7; clear r7
    refine Cov.callS (b1 := []) (b2 := []) (s1 := []) [_] [] .ro rfl rfl Try.call7 rfl rfl (play_New_c (G := G) List.mem_cons_self s0 hu8) rfl (fun v11 bo so h10 => ?_)
    obtain ⟨a13, k14, b12, rfl, rfl, rfl, s15⟩ := h10
    refine Cov.same (bl' := [_]) (sl' := []) rfl rfl rfl ?_
    refine Cov.q .ro (.assign rfl) rfl ?_
    refine Cov.region_end ?_
    refine Cov.seq ?_
    refine Cov.region rfl ?_
    refine Cov.q .ro (.move rfl) rfl ?_
    obtain ⟨u16, hu16, r17⟩ := bind_some r9; clear r9
    refine Cov.callW (b1 := [_]) (b2 := []) (s1 := []) [_] [] .ro rfl rfl Try.call8 rfl rfl (law35_directory_c (G := G) List.mem_cons_self s15 hu16) rfl B0 (fun v19 bo so G20 e21 B22 h18 => ?_)
    obtain ⟨a24, k25, a27, k28, a30, k31, a33, k34, rfl, rfl, rfl, s26, s29, s32, s35⟩ := h18
    refine Cov.same (bl' := [_]) (sl' := []) rfl rfl rfl ?_
    refine Cov.q .ro (.move rfl) rfl ?_
    refine Cov.q .ro (.extract rfl rfl) rfl ?_
    refine Cov.q .ro (.extract rfl rfl) rfl ?_
    refine Cov.alloc .ro ty31 rfl (fun b36 hb36 => ?_)
    refine Cov.store 0 [_, _, _, _] [_, _] .ro rfl rfl rfl ty31 rfl rfl rfl rfl ?_
    refine Cov.q .ro (.assign rfl) rfl ?_
    refine Cov.region_end ?_
    refine Cov.seq ?_
    refine Cov.region rfl ?_
    refine Cov.q .ro (.build [_] [(0, _)] ty54 pl54 rfl rfl) rfl ?_
    refine Cov.q .ro (.load_own_a 0 [_, _, _, _] rfl rfl ty31 rfl) rfl ?_
    obtain ⟨u37, hu37, r38⟩ := bind_some r17; clear r17
    refine Cov.callW (b1 := []) (b2 := [_, _]) (s1 := []) [_, _, _] [] .ro rfl rfl Try.call15 rfl rfl (lookup_Table_c (G := G20) List.mem_cons_self s26 s29 hu37) rfl B22 (fun v40 bo so G41 e42 B43 h39 => ?_)
    obtain ⟨a45, k46, rfl, rfl, rfl, s47⟩ := h39
    refine Cov.same (bl' := [_, _]) (sl' := []) rfl rfl rfl ?_
    refine Cov.q .ro (.move rfl) rfl ?_
    refine Cov.q .ro (.extract rfl rfl) rfl ?_
    refine Cov.q .ro (.extract rfl rfl) rfl ?_
    refine Cov.alloc .ro ty57 rfl (fun b48 hb48 => ?_)
    refine Cov.store 0 [_, _, _, _] [_, _, _] .ro rfl rfl rfl ty57 rfl rfl rfl rfl ?_
    refine Cov.q .ro (.assign rfl) rfl ?_
    refine Cov.region_end ?_
    refine Cov.prune [(4, _), (5, _), (6, _), (7, _)] ⟨rfl, rfl, rfl, rfl, trivial⟩ ?_
    refine Cov.seq ?_
    refine Cov.seq ?_
    refine Cov.drawL (.q 0 (.q 1 (.q 2 (.q 3 (.q 4 (.q 5 (.q 6 (.q 7 (.q 8 (.q 9 (.q 10 (.q 11 (.q 12 (.q 13 (.e 14 1 (.q 15 (.q 16 (.q 17 (.q 18 (.e 19 1 (.q 20 (.q 21 .nil)))))))))))))))))))))) [_, _, _] (by kernel_rfl) (by kernel_rfl) (pick_mem [0, 1, 2] rfl) ?_
    refine Cov.dq (.move rfl) rfl ?_
    refine Cov.dq (.neq rfl rfl) rfl ?_
    refine Cov.dq (.move rfl) rfl ?_
    refine Cov.cutD 8 (β := Unit) (fun y => [(44, .bool (decide ((u37.2 ≠ 0) ∨ ((u37.1.2.2.2.length : Int) ≠ u16.1.1.1))))]) [(4, _), (5, _), (6, _)] (fun y => G41 :: Fs) (fun y => []) [_, _, _] (fun y => []) [] (fun y => True) ⟨rfl, rfl, rfl, trivial⟩ [0, 1, 2] rfl [] rfl ?_ ?_
    · rintro _ _
      refine Cov.prune [(44, .bool (decide ((u37.2 ≠ 0) ∨ ((u37.1.2.2.2.length : Int) ≠ u16.1.1.1)))), (4, _), (5, _), (6, _)] ⟨rfl, rfl, rfl, rfl, trivial⟩ ?_
      refine Cov.same (bl' := [_, _, _]) (sl' := []) (Fs' := G41 :: Fs) rfl rfl rfl ?_
      refine Cov.dq (.move rfl) rfl ?_
      obtain ⟨u59, h60, r61⟩ := bind_some r38; clear r38
      refine Cov.cutD 5 (β := Unit) (fun y => [(50, .bool u59)]) [(4, _), (5, _), (6, _)] (fun y => G41 :: Fs) (fun y => []) [_, _, _] (fun y => []) [] (fun y => True) ⟨rfl, rfl, rfl, trivial⟩ [0, 1, 2] rfl [] rfl ?_ ?_
      · rintro _ _
        refine Cov.prune [(50, .bool u59), (4, _), (5, _), (6, _)] ⟨rfl, rfl, rfl, rfl, trivial⟩ ?_
        refine Cov.same (bl' := [_, _, _]) (sl' := []) (Fs' := G41 :: Fs) rfl rfl rfl ?_
        refine Cov.dq (.move rfl) rfl ?_
        obtain ⟨u70, h71, r72⟩ := bind_some r61; clear r61
        refine Cov.cutD 4 (β := Unit) (fun y => [(55, .bool u70)]) [(4, _), (5, _), (6, _)] (fun y => G41 :: Fs) (fun y => []) [_, _, _] (fun y => []) [] (fun y => True) ⟨rfl, rfl, rfl, trivial⟩ [0, 1, 2] rfl [] rfl ?_ ?_
        · rintro _ _
          refine Cov.prune [(55, .bool u70), (4, _), (5, _), (6, _)] ⟨rfl, rfl, rfl, rfl, trivial⟩ ?_
          refine Cov.same (bl' := [_, _, _]) (sl' := []) (Fs' := G41 :: Fs) rfl rfl rfl ?_
          refine Cov.draw_end ?_
          refine Cov.cond rfl (fun c75 => ?_) (fun c75 => ?_)
          · have r76 := ifT r72 c75; clear r72
            refine Cov.seq ?_
            refine Cov.region rfl ?_
            refine Cov.q .ro (.assign rfl) rfl ?_
            refine Cov.region_end ?_
            cases r76
            refine Cov.drop 3 0 [] _ rfl rfl ?_
            refine Cov.retS (c := ⟨5, none⟩) (.inr ⟨_, rfl⟩) [.tmp 2] [_] rfl Try.func5 Try.results5 ⟨RV.tmp rfl, trivial⟩ (fun _ h => List.mem_cons_of_mem _ h) ⟨rfl, rfl, rfl⟩
          · have r77 := ifBF r72 c75; clear r72
            refine Cov.skip ?_
            refine Cov.seq ?_
            refine Cov.region rfl ?_
            refine Cov.q .ro (.assign rfl) rfl ?_
            refine Cov.region_end ?_
            refine Cov.seq ?_
            refine Cov.seq ?_
            refine Cov.region rfl ?_
            refine Cov.q .ro (.fieldAddr 3 rfl fl57_3 ty55.sz rfl) rfl ?_
            refine Cov.q .ro (.load_own 0 rfl rfl ty55 rfl) rfl ?_
            refine Cov.q .ro (.len_sl rfl rfl sl55) rfl ?_
            refine Cov.q .ro (.move rfl) rfl ?_
            refine Cov.region_end ?_
            refine Cov.cutB (β := Hp × Int × Int × Int × Int × Int × Int × Int) (fun y => [(8, .int .i64 y.2.1)]) [(5, _)] (fun y => y.1 :: Fs) (fun y => [(b48, .cells #[.int .i64 y.2.2.1, .int .i64 y.2.2.2.1, .int .i64 y.2.2.2.2.1, .slice a45 u37.1.2.2.2.length k46] 57 (0, 0)), (b36, .cells #[.int .i64 y.2.2.2.2.2.1, .slice a24 u16.1.1.2.length k25, .int .i64 y.2.2.2.2.2.2.1, .slice a27 u16.1.2.2.length k28] 31 (0, 0)), (b12, .cells #[.slice a33 u16.2.2.1.length k34, .int .i64 y.2.2.2.2.2.2.2] 74 (0, 0))]) [] (fun y => []) [] (fun y => HpLe G41 y.1 ∧ Bd w0 S0 Fs y.1 ∧ (law35_LookupTables_J1 u16.2.1) y.2.1 y.2.2.1 y.2.2.2.1 y.2.2.2.2.1 y.2.2.2.2.2.1 y.2.2.2.2.2.2.1 y.2.2.2.2.2.2.2 = some r) ⟨rfl, trivial⟩ [] rfl [] rfl ?_ ?_
            · intro y hI
              obtain ⟨G1019, v1023, v1024, v1025, v1026, v1027, v1028, v1029⟩ := y
              obtain ⟨e1020, B1021, r1031⟩ := hI
              try dsimp only at e1020 B1021 r1031
              refine Cov.prune [(8, .int .i64 v1023), (5, _)] ⟨rfl, rfl, trivial⟩ ?_
              refine Cov.same (bl' := [(b48, .cells #[.int .i64 v1024, .int .i64 v1025, .int .i64 v1026, .slice a45 u37.1.2.2.2.length k46] 57 (0, 0)), (b36, .cells #[.int .i64 v1027, .slice a24 u16.1.1.2.length k25, .int .i64 v1028, .slice a27 u16.1.2.2.length k28] 31 (0, 0)), (b12, .cells #[.slice a33 u16.2.2.1.length k34, .int .i64 v1029] 74 (0, 0))]) (sl' := []) (Fs' := G1019 :: Fs) rfl rfl rfl ?_
              unfold law35_LookupTables_J1 at r1031
              try dsimp only at r1031
              refine Cov.seq ?_
              refine Cov.region rfl ?_
              refine Cov.q .ro (.move rfl) rfl ?_
              refine Cov.q .ro (.move rfl) rfl ?_
              refine Cov.q .ro (.len_sl rfl rfl sl32) rfl ?_
              refine Cov.q .ro (.eql rfl rfl) rfl ?_
              refine Cov.q .ro (.assign rfl) rfl ?_
              refine Cov.region_end ?_
              cases r1031
              refine Cov.drop 3 0 [] _ rfl rfl ?_
              refine Cov.retS (c := ⟨5, none⟩) (.inr ⟨_, rfl⟩) [.tmp 2] [_] rfl Try.func5 Try.results5 ⟨RV.tmp rfl, trivial⟩ (fun _ h => List.mem_cons_of_mem _ h) ⟨rfl, rfl, rfl⟩
            · intro hb1037
              refine Cov.block ?_
              refine Cov.pull 2 rfl [_, _, _] rfl ?_
              refine Cov.pull 2 rfl [_, _, _] rfl ?_
              refine Cov.pull 2 rfl [_, _, _] rfl ?_
              refine Cov.loop2 (α := Nat × List (List Int) × Hp × Int × Int × Int × Int × Int × Int × Int) (fun y => [(8, .int .i64 y.2.2.2.1), (59, .int .i64 (y.1 : Int))]) [(4, _), (5, _), (57, _), (58, _)] (fun y => [y.2.2.1]) (fun y => [(b48, .cells #[.int .i64 y.2.2.2.2.1, .int .i64 y.2.2.2.2.2.1, .int .i64 y.2.2.2.2.2.2.1, .slice a45 u37.1.2.2.2.length k46] 57 (0, 0)), (b36, .cells #[.int .i64 y.2.2.2.2.2.2.2.1, .slice a24 u16.1.1.2.length k25, .int .i64 y.2.2.2.2.2.2.2.2.1, .slice a27 u16.1.2.2.length k28] 31 (0, 0)), (b12, .cells #[.slice a33 u16.2.2.1.length k34, .int .i64 y.2.2.2.2.2.2.2.2.2] 74 (0, 0))]) [] (fun y => []) [] (fun y => HpLe G41 y.2.2.1 ∧ Bd w0 S0 Fs y.2.2.1 ∧ List.drop y.1 u37.1.2.2.2 = y.2.1 ∧ law35_LookupTables_L5 (law35_LookupTables_J1 u16.2.1) u16.2.1 u16.1.2.2 y.2.1 y.1 y.2.2.2.1 y.2.2.2.2.1 y.2.2.2.2.2.1 y.2.2.2.2.2.2.1 y.2.2.2.2.2.2.2.1 y.2.2.2.2.2.2.2.2.1 y.2.2.2.2.2.2.2.2.2 = some r) (fun y => y.2.1.length) (0, u37.1.2.2.2, G41, 0, u37.1.1, u37.1.2.1, u37.1.2.2.1, u16.1.1.1, u16.1.2.1, u16.2.2.2) ⟨(HpLe.refl _), B43, rfl, r77⟩ ⟨rfl, rfl, rfl, rfl, rfl, rfl, trivial⟩ rfl rfl rfl (fun y hI hb1515 => ?_)
              obtain ⟨i1500, w1501, G1503, v1507, v1508, v1509, v1510, v1511, v1512, v1513⟩ := y
              obtain ⟨e1504, B1505, g1502, r1514⟩ := hI
              try dsimp only at e1504 B1505 g1502 r1514
              refine Cov.prune [(8, .int .i64 v1507), (59, .int .i64 (i1500 : Int)), (4, _), (5, _), (57, _), (58, _)] ⟨rfl, rfl, rfl, rfl, rfl, rfl, trivial⟩ ?_
              refine Cov.same (bl' := [(b48, .cells #[.int .i64 v1508, .int .i64 v1509, .int .i64 v1510, .slice a45 u37.1.2.2.2.length k46] 57 (0, 0)), (b36, .cells #[.int .i64 v1511, .slice a24 u16.1.1.2.length k25, .int .i64 v1512, .slice a27 u16.1.2.2.length k28] 31 (0, 0)), (b12, .cells #[.slice a33 u16.2.2.1.length k34, .int .i64 v1513] 74 (0, 0))]) (sl' := []) (Fs' := G1503 :: Fs) rfl rfl rfl ?_
              cases w1501 with
              | nil =>
                rw [law35_LookupTables_L5] at r1514; try dsimp only at r1514
                refine Cov.seq ?_
                refine Cov.region rfl ?_
                refine Cov.q .ro (.lss rfl rfl) rfl ?_
                refine Cov.region_end ?_
                refine Cov.seq ?_
                refine Cov.cond_dec rfl (fun c => absurd c (drop_nil g1502)) (fun _ => ?_)
                refine Cov.exit rfl ?_
                refine Cov.prune _ ?_ (Cov.same rfl rfl rfl (hb1037 (G1503, v1507, v1508, v1509, v1510, v1511, v1512, v1513) ⟨e1504, B1505, r1514⟩))
                exact ⟨rfl, rfl, trivial⟩
              | cons x1523 xs1524 =>
                have r1522 : law35_LookupTables_B5 (law35_LookupTables_J1 u16.2.1) u16.2.1 u16.1.2.2 (law35_LookupTables_L5 (law35_LookupTables_J1 u16.2.1) u16.2.1 u16.1.2.2 xs1524 (i1500 + 1)) x1523 i1500 v1507 v1508 v1509 v1510 v1511 v1512 v1513 = some r := r1514; clear r1514; unfold law35_LookupTables_B5 at r1522; try dsimp only at r1522
                refine Cov.seq ?_
                refine Cov.region rfl ?_
                refine Cov.q .ro (.lss rfl rfl) rfl ?_
                refine Cov.region_end ?_
                refine Cov.seq ?_
                refine Cov.cond_dec rfl (fun _ => ?_) (fun c => absurd (drop_lt g1502) c)
                refine Cov.skip ?_
                refine Cov.seq ?_
                refine Cov.block ?_
                refine Cov.seq ?_
                refine Cov.region rfl ?_
                refine Cov.q .ro (.move rfl) rfl ?_
                obtain ⟨c1525, p1526, h1527⟩ := SlR.get (SlR.mono e1504 s47) (drop_idx g1502)
                obtain ⟨a1528, k1529, rfl, s1530⟩ := h1527
                refine Cov.q .ro (.idxR (SlR.mono e1504 s47) rfl rfl (drop_idx g1502) sl55 ty39.sz) rfl ?_
                refine Cov.q .ro (.load_rp p1526 List.mem_cons_self rfl ty39 rfl) rfl ?_
                refine Cov.q .ro (.assign rfl) rfl ?_
                refine Cov.q .ro (.assign rfl) rfl ?_
                refine Cov.region_end ?_
                refine Cov.seq ?_
                refine Cov.region rfl ?_
                refine Cov.q .ro (.move rfl) rfl ?_
                refine Cov.q .ro (.len_sl rfl rfl sl32) rfl ?_
                refine Cov.q .ro (.move rfl) rfl ?_
                refine Cov.region_end ?_
                refine Cov.block ?_
                refine Cov.pull 2 rfl [_, _, _] rfl ?_
                refine Cov.pull 2 rfl [_, _, _] rfl ?_
                refine Cov.pull 2 rfl [_, _, _] rfl ?_
                refine Cov.loop2 (α := Nat × (List (ByteArray × Int)) × Hp × Int × Int × Int × Int × Int × Int × Int) (fun y => [(8, .int .i64 y.2.2.2.1), (66, .int .i64 (y.1 : Int))]) [(59, _), (4, _), (5, _), (57, _), (58, _), (9, _), (10, _), (64, _), (65, _)] (fun y => [y.2.2.1]) (fun y => [(b48, .cells #[.int .i64 y.2.2.2.2.1, .int .i64 y.2.2.2.2.2.1, .int .i64 y.2.2.2.2.2.2.1, .slice a45 u37.1.2.2.2.length k46] 57 (0, 0)), (b36, .cells #[.int .i64 y.2.2.2.2.2.2.2.1, .slice a24 u16.1.1.2.length k25, .int .i64 y.2.2.2.2.2.2.2.2.1, .slice a27 u16.1.2.2.length k28] 31 (0, 0)), (b12, .cells #[.slice a33 u16.2.2.1.length k34, .int .i64 y.2.2.2.2.2.2.2.2.2] 74 (0, 0))]) [] (fun y => []) [] (fun y => HpLe G1503 y.2.2.1 ∧ Bd w0 S0 Fs y.2.2.1 ∧ List.drop y.1 u16.2.1 = y.2.1 ∧ law35_LookupTables_L4 (law35_LookupTables_L5 (law35_LookupTables_J1 u16.2.1) u16.2.1 u16.1.2.2 xs1524 (i1500 + 1)) (i1500 : Int) x1523 u16.1.2.2 y.2.1 y.2.2.2.1 y.2.2.2.2.1 y.2.2.2.2.2.1 y.2.2.2.2.2.2.1 y.2.2.2.2.2.2.2.1 y.2.2.2.2.2.2.2.2.1 y.2.2.2.2.2.2.2.2.2 = some r) (fun y => y.2.1.length) (0, u16.2.1, G1503, v1507, v1508, v1509, v1510, v1511, v1512, v1513) ⟨(HpLe.refl _), B1505, rfl, r1522⟩ ⟨rfl, rfl, rfl, rfl, rfl, rfl, rfl, rfl, rfl, rfl, rfl, trivial⟩ rfl rfl rfl (fun y hI hb1762 => ?_)
                obtain ⟨i1747, w1748, G1750, v1754, v1755, v1756, v1757, v1758, v1759, v1760⟩ := y
                obtain ⟨e1751, B1752, g1749, r1761⟩ := hI
                try dsimp only at e1751 B1752 g1749 r1761
                refine Cov.prune [(8, .int .i64 v1754), (66, .int .i64 (i1747 : Int)), (59, _), (4, _), (5, _), (57, _), (58, _), (9, _), (10, _), (64, _), (65, _)] ⟨rfl, rfl, rfl, rfl, rfl, rfl, rfl, rfl, rfl, rfl, rfl, trivial⟩ ?_
                refine Cov.same (bl' := [(b48, .cells #[.int .i64 v1755, .int .i64 v1756, .int .i64 v1757, .slice a45 u37.1.2.2.2.length k46] 57 (0, 0)), (b36, .cells #[.int .i64 v1758, .slice a24 u16.1.1.2.length k25, .int .i64 v1759, .slice a27 u16.1.2.2.length k28] 31 (0, 0)), (b12, .cells #[.slice a33 u16.2.2.1.length k34, .int .i64 v1760] 74 (0, 0))]) (sl' := []) (Fs' := G1750 :: Fs) rfl rfl rfl ?_
                cases w1748 with
                | nil =>
                  rw [law35_LookupTables_L4] at r1761; try dsimp only at r1761
                  refine Cov.seq ?_
                  refine Cov.region rfl ?_
                  refine Cov.q .ro (.lss rfl rfl) rfl ?_
                  refine Cov.region_end ?_
                  refine Cov.seq ?_
                  refine Cov.cond_dec rfl (fun c => absurd c (drop_nil g1749)) (fun _ => ?_)
                  refine Cov.exit rfl ?_
                  refine Cov.inBlock ?_
                  refine Cov.region rfl ?_
                  refine Cov.q .ro (.addw rfl rfl) rfl ?_
                  refine Cov.q .ro (.move rfl) rfl ?_
                  refine Cov.region_end ?_
                  refine Cov.prune _ ?_ (Cov.same rfl rfl rfl (hb1515 ((i1500 + 1), xs1524, G1750, v1754, v1755, v1756, v1757, v1758, v1759, v1760) ⟨(HpLe.trans e1504 e1751), B1752, (drop_succ g1502), r1761⟩ (Nat.lt_succ_self _)))
                  exact ⟨rfl, (congrArg (fun z => some (Value.int .i64 z)) (idx_wrap (SlR.len s47) g1502)), rfl, rfl, rfl, rfl, trivial⟩
                | cons x1773 xs1774 =>
                  have r1772 : law35_LookupTables_B4 (law35_LookupTables_L5 (law35_LookupTables_J1 u16.2.1) u16.2.1 u16.1.2.2 xs1524 (i1500 + 1)) (i1500 : Int) x1523 u16.1.2.2 (law35_LookupTables_L4 (law35_LookupTables_L5 (law35_LookupTables_J1 u16.2.1) u16.2.1 u16.1.2.2 xs1524 (i1500 + 1)) (i1500 : Int) x1523 u16.1.2.2 xs1774) x1773 v1754 v1755 v1756 v1757 v1758 v1759 v1760 = some r := r1761; clear r1761; unfold law35_LookupTables_B4 at r1772; try dsimp only at r1772
                  refine Cov.seq ?_
                  refine Cov.region rfl ?_
                  refine Cov.q .ro (.lss rfl rfl) rfl ?_
                  refine Cov.region_end ?_
                  refine Cov.seq ?_
                  refine Cov.cond_dec rfl (fun _ => ?_) (fun c => absurd (drop_lt g1749) c)
                  refine Cov.skip ?_
                  refine Cov.seq ?_
                  refine Cov.block ?_
                  refine Cov.seq ?_
                  refine Cov.region rfl ?_
                  obtain ⟨c1775, p1776, h1777⟩ := SlR.get (SlR.mono (HpLe.trans (HpLe.trans e42 e1504) e1751) s32) (drop_idx g1749)
                  obtain ⟨_, _, rfl, rfl, rfl⟩ := h1777
                  refine Cov.q .ro (.idxR (SlR.mono (HpLe.trans (HpLe.trans e42 e1504) e1751) s32) rfl rfl (drop_idx g1749) sl32 ty63.sz) rfl ?_
                  refine Cov.q .ro (.load_rp_a [_, _] p1776 List.mem_cons_self rfl ty63 rfl) rfl ?_
                  refine Cov.alloc .ro ty63 rfl (fun b1778 hb1778 => ?_)
                  refine Cov.store 0 [_, _] [_, _, _, _] .ro rfl rfl rfl ty63 rfl rfl rfl rfl ?_
                  refine Cov.region_end ?_
                  refine Cov.seq ?_
                  refine Cov.region rfl ?_
                  refine Cov.q .ro (.fieldAddr 0 rfl fl63_0 ty9.sz rfl) rfl ?_
                  refine Cov.q .ro (.load_own 0 rfl rfl ty9 rfl) rfl ?_
                  refine Cov.q .ro (.move rfl) rfl ?_
                  refine Cov.q .ro (.build [_, _, _] [(1, _)] ty67 pl67 rfl rfl) rfl ?_
                  refine Cov.lit [_, _, _] [(0, _)] .ro sl68 ty67 rfl rfl rfl rfl rfl rfl (fun b1779 hb1779 => ?_)
                  have o1780 : OL (Rep.pair (Rep.int .i64) (Rep.pair (Rep.sl (Rep.int .i64)) (Rep.sl (Rep.int .i64)))) G1750 [.int .i64 0, .slice a1528 x1523.length k1529, .slice none 0 0] ([(0, x1523, ([] : List Int))] : List (Int × (List Int) × (List Int))) := ((OL.cons rfl (Rep.pairI (Rep.intI .i64 0) (Rep.pairI (Rep.slI (SlR.mono e1751 s1530)) (Rep.slI (SlR.nil (Rp' := (Rep.int .i64)))))) (OL.nil (Rp' := (Rep.pair (Rep.int .i64) (Rep.pair (Rep.sl (Rep.int .i64)) (Rep.sl (Rep.int .i64))))))) :)
                  refine Cov.reval 75 (n' := ([(0, x1523, ([] : List Int))] : List (Int × (List Int) × (List Int))).length) rfl rfl ?_
                  refine Cov.freezeR 0 rfl rfl o1780 [] rfl B1752 (fun G1782 e1783 B1784 s1785 => ?_)
                  obtain ⟨u1787, hu1787, r1788⟩ := bind_some r1772; clear r1772
                  refine Cov.callS (b1 := []) (b2 := [_, _, _, _]) (s1 := []) [_, _, _] [] .ro rfl rfl Try.call18 rfl rfl (lookup_Read_c (G := G1782) List.mem_cons_self s1785 hu1787) rfl (fun v1790 bo so h1789 => ?_)
                  obtain ⟨rfl, rfl, rfl⟩ := h1789
                  refine Cov.same (bl' := [_, _, _, _]) (sl' := []) rfl rfl rfl ?_
                  refine Cov.q .ro (.move rfl) rfl ?_
                  refine Cov.q .ro (.extract rfl rfl) rfl ?_
                  refine Cov.q .ro (.extract rfl rfl) rfl ?_
                  refine Cov.q .ro (.extract rfl rfl) rfl ?_
                  refine Cov.q .ro (.assign rfl) rfl ?_
                  refine Cov.q .ro (.assign rfl) rfl ?_
                  refine Cov.q .ro (.assign rfl) rfl ?_
                  refine Cov.region_end ?_
                  refine Cov.prune [(8, _), (66, _), (59, _), (4, _), (5, _), (57, _), (58, _), (9, _), (10, _), (64, _), (65, _), (12, _), (13, _), (14, _), (15, _)] ⟨rfl, rfl, rfl, rfl, rfl, rfl, rfl, rfl, rfl, rfl, rfl, rfl, rfl, rfl, rfl, trivial⟩ ?_
                  refine Cov.seq ?_
                  refine Cov.region rfl ?_
                  refine Cov.q .ro (.assign rfl) rfl ?_
                  refine Cov.region_end ?_
                  refine Cov.seq ?_
                  refine Cov.seq ?_
                  refine Cov.region rfl ?_
                  refine Cov.q .ro (.fieldAddr 3 rfl fl31_2 ty29.sz rfl) rfl ?_
                  refine Cov.q .ro (.load_own 2 rfl rfl ty29 rfl) rfl ?_
                  refine Cov.q .ro (.move rfl) rfl ?_
                  obtain ⟨u1791, hu1791, r1792⟩ := bind_some r1788; clear r1788
                  obtain ⟨c1793, p1794, h1795⟩ := SlR.get (SlR.mono (HpLe.trans (HpLe.trans (HpLe.trans e42 e1504) e1751) e1783) s29) hu1791
                  obtain ⟨a1796, k1797, rfl, s1798⟩ := h1795
                  refine Cov.q .ro (.idxR (SlR.mono (HpLe.trans (HpLe.trans (HpLe.trans e42 e1504) e1751) e1783) s29) rfl rfl hu1791 sl29 ty32.sz) rfl ?_
                  refine Cov.q .ro (.load_rp p1794 List.mem_cons_self rfl ty32 rfl) rfl ?_
                  refine Cov.q .ro (.len_sl rfl rfl sl32) rfl ?_
                  refine Cov.q .ro (.move rfl) rfl ?_
                  refine Cov.region_end ?_
                  refine Cov.cutB (β := Bool × ByteArray × Int × Int × Int × Int × Int × Int × Int) (fun y => [(16, .bool y.1)]) [(8, _), (66, _), (59, _), (4, _), (5, _), (57, _), (58, _), (9, _), (10, _), (64, _), (65, _), (12, _), (13, _), (14, _), (15, _)] (fun y => G1782 :: Fs) (fun y => [(b1778, .cells #[.string y.2.1, .int .i64 y.2.2.1] 63 (0, 0)), (b48, .cells #[.int .i64 y.2.2.2.1, .int .i64 y.2.2.2.2.1, .int .i64 y.2.2.2.2.2.1, .slice a45 u37.1.2.2.2.length k46] 57 (0, 0)), (b36, .cells #[.int .i64 y.2.2.2.2.2.2.1, .slice a24 u16.1.1.2.length k25, .int .i64 y.2.2.2.2.2.2.2.1, .slice a27 u16.1.2.2.length k28] 31 (0, 0)), (b12, .cells #[.slice a33 u16.2.2.1.length k34, .int .i64 y.2.2.2.2.2.2.2.2] 74 (0, 0))]) [] (fun y => []) [] (fun y => (law35_LookupTables_J2 (law35_LookupTables_L4 (law35_LookupTables_L5 (law35_LookupTables_J1 u16.2.1) u16.2.1 u16.1.2.2 xs1524 (i1500 + 1)) (i1500 : Int) x1523 u16.1.2.2 xs1774) v1754 u1787.1 u1787.2.1 u1787.2.2) y.1 y.2.1 y.2.2.1 y.2.2.2.1 y.2.2.2.2.1 y.2.2.2.2.2.1 y.2.2.2.2.2.2.1 y.2.2.2.2.2.2.2.1 y.2.2.2.2.2.2.2.2 = some r) ⟨rfl, rfl, rfl, rfl, rfl, rfl, rfl, rfl, rfl, rfl, rfl, rfl, rfl, rfl, rfl, trivial⟩ [] rfl [] rfl ?_ ?_
                  · intro y hI
                    obtain ⟨v1865, v1866, v1867, v1868, v1869, v1870, v1871, v1872, v1873⟩ := y
                    have r1875 := hI; clear hI
                    try dsimp only at r1875
                    refine Cov.prune [(16, .bool v1865), (8, _), (66, _), (59, _), (4, _), (5, _), (57, _), (58, _), (9, _), (10, _), (64, _), (65, _), (12, _), (13, _), (14, _), (15, _)] ⟨rfl, rfl, rfl, rfl, rfl, rfl, rfl, rfl, rfl, rfl, rfl, rfl, rfl, rfl, rfl, rfl, trivial⟩ ?_
                    refine Cov.same (bl' := [(b1778, .cells #[.string v1866, .int .i64 v1867] 63 (0, 0)), (b48, .cells #[.int .i64 v1868, .int .i64 v1869, .int .i64 v1870, .slice a45 u37.1.2.2.2.length k46] 57 (0, 0)), (b36, .cells #[.int .i64 v1871, .slice a24 u16.1.1.2.length k25, .int .i64 v1872, .slice a27 u16.1.2.2.length k28] 31 (0, 0)), (b12, .cells #[.slice a33 u16.2.2.1.length k34, .int .i64 v1873] 74 (0, 0))]) (sl' := []) (Fs' := G1782 :: Fs) rfl rfl rfl ?_
                    unfold law35_LookupTables_J2 at r1875
                    try dsimp only at r1875
                    refine Cov.seq ?_
                    refine Cov.seq ?_
                    refine Cov.region rfl ?_
                    refine Cov.q .ro (.move rfl) rfl ?_
                    refine Cov.q .ro (.neq rfl rfl) rfl ?_
                    refine Cov.q .ro (.move rfl) rfl ?_
                    refine Cov.cutR 4 (β := Unit) (fun y => [(105, .bool (decide ((u1787.2.2 ≠ 0) ∨ (u1787.2.1 ≠ v1865))))]) [(8, _), (66, _), (59, _), (4, _), (5, _), (57, _), (58, _), (9, _), (10, _), (64, _), (65, _), (12, _), (13, _), (14, _)] (fun y => G1782 :: Fs) (fun y => []) [_, _, _, _] (fun y => []) [] (fun y => True) ⟨rfl, rfl, rfl, rfl, rfl, rfl, rfl, rfl, rfl, rfl, rfl, rfl, rfl, rfl, trivial⟩ [0, 1, 2, 3] rfl [] rfl ?_ ?_
                    · rintro _ _
                      refine Cov.prune [(105, .bool (decide ((u1787.2.2 ≠ 0) ∨ (u1787.2.1 ≠ v1865)))), (8, _), (66, _), (59, _), (4, _), (5, _), (57, _), (58, _), (9, _), (10, _), (64, _), (65, _), (12, _), (13, _), (14, _)] ⟨rfl, rfl, rfl, rfl, rfl, rfl, rfl, rfl, rfl, rfl, rfl, rfl, rfl, rfl, rfl, trivial⟩ ?_
                      refine Cov.same (bl' := [_, _, _, _]) (sl' := []) (Fs' := G1782 :: Fs) rfl rfl rfl ?_
                      refine Cov.q .ro (.move rfl) rfl ?_
                      refine Cov.cutR 8 (β := Unit) (fun y => [(114, .bool (decide (((u1787.2.2 ≠ 0) ∨ (u1787.2.1 ≠ v1865)) ∨ ((u1787.2.1 = true) ∧ (u1787.1 ≠ v1867)))))]) [(8, _), (66, _), (59, _), (4, _), (5, _), (57, _), (58, _), (9, _), (10, _), (64, _), (65, _), (14, _)] (fun y => G1782 :: Fs) (fun y => []) [_, _, _, _] (fun y => []) [] (fun y => True) ⟨rfl, rfl, rfl, rfl, rfl, rfl, rfl, rfl, rfl, rfl, rfl, rfl, trivial⟩ [0, 1, 2, 3] rfl [] rfl ?_ ?_
                      · rintro _ _
                        refine Cov.prune [(114, .bool (decide (((u1787.2.2 ≠ 0) ∨ (u1787.2.1 ≠ v1865)) ∨ ((u1787.2.1 = true) ∧ (u1787.1 ≠ v1867))))), (8, _), (66, _), (59, _), (4, _), (5, _), (57, _), (58, _), (9, _), (10, _), (64, _), (65, _), (14, _)] ⟨rfl, rfl, rfl, rfl, rfl, rfl, rfl, rfl, rfl, rfl, rfl, rfl, rfl, trivial⟩ ?_
                        refine Cov.same (bl' := [_, _, _, _]) (sl' := []) (Fs' := G1782 :: Fs) rfl rfl rfl ?_
                        refine Cov.region_end ?_
                        refine Cov.cond_dec rfl (fun c1902 => ?_) (fun c1902 => ?_)
                        · have r1903 := ifT r1875 c1902; clear r1875
                          refine Cov.seq ?_
                          refine Cov.region rfl ?_
                          refine Cov.q .ro (.assign rfl) rfl ?_
                          refine Cov.region_end ?_
                          refine Cov.prune [(2, _)] ⟨rfl, trivial⟩ ?_
                          cases r1903
                          refine Cov.drop 4 0 [] _ rfl rfl ?_
                          refine Cov.retS (c := ⟨5, none⟩) (.inr ⟨_, rfl⟩) [.tmp 2] [_] rfl Try.func5 Try.results5 ⟨RV.tmp rfl, trivial⟩ (fun _ h => List.mem_cons_of_mem _ h) ⟨rfl, rfl, rfl⟩
                        · have r1904 := ifF r1875 c1902; clear r1875
                          refine Cov.skip ?_
                          refine Cov.seq ?_
                          refine Cov.region rfl ?_
                          refine Cov.q .ro (.move rfl) rfl ?_
                          refine Cov.region_end ?_
                          refine Cov.cond rfl (fun c1905 => ?_) (fun c1905 => ?_)
                          · have r1906 := ifT r1904 c1905; clear r1904
                            refine Cov.region rfl ?_
                            refine Cov.q .ro (.move rfl) rfl ?_
                            refine Cov.q .ro (.addw rfl rfl) rfl ?_
                            refine Cov.q .ro (.assign rfl) rfl ?_
                            refine Cov.region_end ?_
                            refine Cov.inBlock ?_
                            refine Cov.region rfl ?_
                            refine Cov.q .ro (.addw rfl rfl) rfl ?_
                            refine Cov.q .ro (.move rfl) rfl ?_
                            refine Cov.region_end ?_
                            refine Cov.drop 1 0 [_, _, _] _ rfl rfl ?_
                            refine Cov.prune _ ?_ (Cov.same rfl rfl rfl (hb1762 ((i1747 + 1), xs1774, G1782, (w64 (v1754 + 1)), v1868, v1869, v1870, v1871, v1872, v1873) ⟨(HpLe.trans e1751 e1783), B1784, (drop_succ g1749), r1906⟩ (Nat.lt_succ_self _)))
                            exact ⟨rfl, (congrArg (fun z => some (Value.int .i64 z)) (idx_wrap (SlR.len (SlR.mono (HpLe.trans e42 e1504) s32)) g1749)), rfl, rfl, rfl, rfl, rfl, rfl, rfl, rfl, rfl, trivial⟩
                          · have r1907 := ifBF r1904 c1905; clear r1904
                            refine Cov.skip ?_
                            refine Cov.inBlock ?_
                            refine Cov.region rfl ?_
                            refine Cov.q .ro (.addw rfl rfl) rfl ?_
                            refine Cov.q .ro (.move rfl) rfl ?_
                            refine Cov.region_end ?_
                            refine Cov.drop 1 0 [_, _, _] _ rfl rfl ?_
                            refine Cov.prune _ ?_ (Cov.same rfl rfl rfl (hb1762 ((i1747 + 1), xs1774, G1782, v1754, v1868, v1869, v1870, v1871, v1872, v1873) ⟨(HpLe.trans e1751 e1783), B1784, (drop_succ g1749), r1907⟩ (Nat.lt_succ_self _)))
                            exact ⟨rfl, (congrArg (fun z => some (Value.int .i64 z)) (idx_wrap (SlR.len (SlR.mono (HpLe.trans e42 e1504) s32)) g1749)), rfl, rfl, rfl, rfl, rfl, rfl, rfl, rfl, rfl, trivial⟩
                      · intro hb1899
                        refine Cov.split 106 rfl (fun c1898 => ?_) (fun c1898 => ?_)
                        · refine Cov.g_off rfl rfl rfl ?_
                          refine Cov.g_off rfl rfl rfl ?_
                          refine Cov.gu_off rfl rfl ?_
                          refine Cov.gu_off rfl rfl ?_
                          refine Cov.gu_off rfl rfl ?_
                          refine Cov.gu_off rfl rfl ?_
                          refine Cov.g_off rfl rfl rfl ?_
                          refine Cov.q .ro (.pick_t rfl rfl) rfl ?_
                          refine Cov.prune _ ?_ (Cov.same rfl rfl rfl (hb1899 () trivial))
                          exact ⟨dor_t c1898, rfl, rfl, rfl, rfl, rfl, rfl, rfl, rfl, rfl, rfl, rfl, rfl, trivial⟩
                        · refine Cov.g_on rfl ?_
                          refine Cov.q .ro (.move rfl) rfl ?_
                          refine Cov.g_on rfl ?_
                          refine Cov.q .ro (.move rfl) rfl ?_
                          refine Cov.cutR 5 (β := Unit) (fun y => [(113, .bool (decide ((u1787.2.1 = true) ∧ (u1787.1 ≠ v1867))))]) [(8, _), (66, _), (59, _), (4, _), (5, _), (57, _), (58, _), (9, _), (10, _), (64, _), (65, _), (14, _), (106, _), (107, _)] (fun y => G1782 :: Fs) (fun y => []) [_, _, _, _] (fun y => []) [] (fun y => True) ⟨rfl, rfl, rfl, rfl, rfl, rfl, rfl, rfl, rfl, rfl, rfl, rfl, rfl, rfl, trivial⟩ [0, 1, 2, 3] rfl [] rfl ?_ ?_
                          · rintro _ _
                            refine Cov.prune [(113, .bool (decide ((u1787.2.1 = true) ∧ (u1787.1 ≠ v1867)))), (8, _), (66, _), (59, _), (4, _), (5, _), (57, _), (58, _), (9, _), (10, _), (64, _), (65, _), (14, _), (106, _), (107, _)] ⟨rfl, rfl, rfl, rfl, rfl, rfl, rfl, rfl, rfl, rfl, rfl, rfl, rfl, rfl, rfl, trivial⟩ ?_
                            refine Cov.same (bl' := [_, _, _, _]) (sl' := []) (Fs' := G1782 :: Fs) rfl rfl rfl ?_
                            refine Cov.q .ro (.pick_f rfl rfl) rfl ?_
                            refine Cov.prune _ ?_ (Cov.same rfl rfl rfl (hb1899 () trivial))
                            exact ⟨dor_f c1898, rfl, rfl, rfl, rfl, rfl, rfl, rfl, rfl, rfl, rfl, rfl, rfl, trivial⟩
                          · intro hb1909
                            refine Cov.split_b 108 rfl (fun c1908 => ?_) (fun c1908 => ?_)
                            · refine Cov.g_on rfl ?_
                              refine Cov.q .ro (.move rfl) rfl ?_
                              refine Cov.g_on rfl ?_
                              refine Cov.q .ro (.fieldAddr 1 rfl fl63_1 ty3.sz rfl) rfl ?_
                              refine Cov.g_on rfl ?_
                              refine Cov.q .ro (.load_own 0 rfl rfl ty3 rfl) rfl ?_
                              refine Cov.g_on rfl ?_
                              refine Cov.q .ro (.neq rfl rfl) rfl ?_
                              refine Cov.g_on rfl ?_
                              refine Cov.q .ro (.pick_t rfl rfl) rfl ?_
                              refine Cov.prune _ ?_ (Cov.same rfl rfl rfl (hb1909 () trivial))
                              exact ⟨dand_t c1908, rfl, rfl, rfl, rfl, rfl, rfl, rfl, rfl, rfl, rfl, rfl, rfl, rfl, rfl, trivial⟩
                            · refine Cov.g_off rfl rfl rfl ?_
                              refine Cov.g_off rfl rfl rfl ?_
                              refine Cov.g_off rfl rfl rfl ?_
                              refine Cov.g_off rfl rfl rfl ?_
                              refine Cov.g_on rfl ?_
                              refine Cov.q .ro (.pick_f rfl rfl) rfl ?_
                              refine Cov.prune _ ?_ (Cov.same rfl rfl rfl (hb1909 () trivial))
                              exact ⟨dand_f (bne_of c1908), rfl, rfl, rfl, rfl, rfl, rfl, rfl, rfl, rfl, rfl, rfl, rfl, rfl, rfl, trivial⟩
                    · intro hb1891
                      refine Cov.split 101 rfl (fun c1890 => ?_) (fun c1890 => ?_)
                      · refine Cov.g_off rfl rfl rfl ?_
                        refine Cov.g_off rfl rfl rfl ?_
                        refine Cov.g_off rfl rfl rfl ?_
                        refine Cov.q .ro (.pick_t rfl rfl) rfl ?_
                        refine Cov.prune _ ?_ (Cov.same rfl rfl rfl (hb1891 () trivial))
                        exact ⟨dor_t c1890, rfl, rfl, rfl, rfl, rfl, rfl, rfl, rfl, rfl, rfl, rfl, rfl, rfl, rfl, trivial⟩
                      · refine Cov.g_on rfl ?_
                        refine Cov.q .ro (.move rfl) rfl ?_
                        refine Cov.g_on rfl ?_
                        refine Cov.q .ro (.move rfl) rfl ?_
                        refine Cov.g_on rfl ?_
                        refine Cov.q .ro (.neq_b Try.underlying4 rfl rfl) rfl ?_
                        refine Cov.q .ro (.pick_f rfl rfl) rfl ?_
                        refine Cov.prune _ ?_ (Cov.same rfl rfl rfl (hb1891 () trivial))
                        exact ⟨dor_f c1890, rfl, rfl, rfl, rfl, rfl, rfl, rfl, rfl, rfl, rfl, rfl, rfl, rfl, rfl, trivial⟩
                  · intro hb1912
                    refine Cov.block ?_
                    refine Cov.loop2 (α := Nat × (List (ByteArray × Int)) × Bool) (fun y => [(16, .bool y.2.2), (86, .int .i64 (y.1 : Int))]) [(8, _), (66, _), (59, _), (4, _), (5, _), (57, _), (58, _), (9, _), (10, _), (64, _), (65, _), (12, _), (13, _), (14, _), (15, _), (84, _), (85, _)] (fun y => []) (fun y => []) [_, _, _, _] (fun y => []) [] (fun y => List.drop y.1 u1791 = y.2.1 ∧ law35_LookupTables_L3 (law35_LookupTables_J2 (law35_LookupTables_L4 (law35_LookupTables_L5 (law35_LookupTables_J1 u16.2.1) u16.2.1 u16.1.2.2 xs1524 (i1500 + 1)) (i1500 : Int) x1523 u16.1.2.2 xs1774) v1754 u1787.1 u1787.2.1 u1787.2.2) x1773.1 x1773.2 v1755 v1756 v1757 v1758 v1759 v1760 y.2.1 y.2.2 = some r) (fun y => y.2.1.length) (0, u1791, false) ⟨rfl, r1792⟩ ⟨rfl, rfl, rfl, rfl, rfl, rfl, rfl, rfl, rfl, rfl, rfl, rfl, rfl, rfl, rfl, rfl, rfl, rfl, rfl, trivial⟩ rfl rfl rfl (fun y hI hb1943 => ?_)
                    obtain ⟨i1938, w1939, v1941⟩ := y
                    obtain ⟨g1940, r1942⟩ := hI
                    try dsimp only at g1940 r1942
                    refine Cov.prune [(16, .bool v1941), (86, .int .i64 (i1938 : Int)), (8, _), (66, _), (59, _), (4, _), (5, _), (57, _), (58, _), (9, _), (10, _), (64, _), (65, _), (12, _), (13, _), (14, _), (15, _), (84, _), (85, _)] ⟨rfl, rfl, rfl, rfl, rfl, rfl, rfl, rfl, rfl, rfl, rfl, rfl, rfl, rfl, rfl, rfl, rfl, rfl, rfl, trivial⟩ ?_
                    refine Cov.same (bl' := [_, _, _, _]) (sl' := []) (Fs' := G1782 :: Fs) rfl rfl rfl ?_
                    cases w1939 with
                    | nil =>
                      rw [law35_LookupTables_L3] at r1942; try dsimp only at r1942
                      refine Cov.seq ?_
                      refine Cov.region rfl ?_
                      refine Cov.q .ro (.lss rfl rfl) rfl ?_
                      refine Cov.region_end ?_
                      refine Cov.seq ?_
                      refine Cov.cond_dec rfl (fun c => absurd c (drop_nil g1940)) (fun _ => ?_)
                      refine Cov.exit rfl ?_
                      refine Cov.prune _ ?_ (Cov.same rfl rfl rfl (hb1912 (v1941, x1773.1, x1773.2, v1755, v1756, v1757, v1758, v1759, v1760) r1942))
                      exact ⟨rfl, rfl, rfl, rfl, rfl, rfl, rfl, rfl, rfl, rfl, rfl, rfl, rfl, rfl, rfl, rfl, trivial⟩
                    | cons x1969 xs1970 =>
                      have r1968 : law35_LookupTables_B3 (law35_LookupTables_J2 (law35_LookupTables_L4 (law35_LookupTables_L5 (law35_LookupTables_J1 u16.2.1) u16.2.1 u16.1.2.2 xs1524 (i1500 + 1)) (i1500 : Int) x1523 u16.1.2.2 xs1774) v1754 u1787.1 u1787.2.1 u1787.2.2) x1773.1 x1773.2 v1755 v1756 v1757 v1758 v1759 v1760 (law35_LookupTables_L3 (law35_LookupTables_J2 (law35_LookupTables_L4 (law35_LookupTables_L5 (law35_LookupTables_J1 u16.2.1) u16.2.1 u16.1.2.2 xs1524 (i1500 + 1)) (i1500 : Int) x1523 u16.1.2.2 xs1774) v1754 u1787.1 u1787.2.1 u1787.2.2) x1773.1 x1773.2 v1755 v1756 v1757 v1758 v1759 v1760 xs1970) x1969 v1941 = some r := r1942; clear r1942; unfold law35_LookupTables_B3 at r1968; try dsimp only at r1968
                      refine Cov.seq ?_
                      refine Cov.region rfl ?_
                      refine Cov.q .ro (.lss rfl rfl) rfl ?_
                      refine Cov.region_end ?_
                      refine Cov.seq ?_
                      refine Cov.cond_dec rfl (fun _ => ?_) (fun c => absurd (drop_lt g1940) c)
                      refine Cov.skip ?_
                      refine Cov.seq ?_
                      refine Cov.block ?_
                      refine Cov.seq ?_
                      refine Cov.region rfl ?_
                      obtain ⟨c1971, p1972, h1973⟩ := SlR.get s1798 (drop_idx g1940)
                      obtain ⟨_, _, rfl, rfl, rfl⟩ := h1973
                      refine Cov.q .ro (.idxR s1798 rfl rfl (drop_idx g1940) sl32 ty63.sz) rfl ?_
                      refine Cov.q .ro (.load_rp_a [_, _] p1972 List.mem_cons_self rfl ty63 rfl) rfl ?_
                      refine Cov.alloc .ro ty63 rfl (fun b1974 hb1974 => ?_)
                      refine Cov.store 0 [_, _] [_, _, _, _, _] .ro rfl rfl rfl ty63 rfl rfl rfl rfl ?_
                      refine Cov.region_end ?_
                      refine Cov.region rfl ?_
                      refine Cov.q .ro (.move rfl) rfl ?_
                      refine Cov.q .ro (.move rfl) rfl ?_
                      refine Cov.cutR 6 (β := Unit) (fun y => [(97, .bool (decide ((v1941 = true) ∨ (x1969.1 = x1773.1))))]) [(16, _), (86, _), (8, _), (66, _), (59, _), (4, _), (5, _), (57, _), (58, _), (9, _), (10, _), (64, _), (65, _), (12, _), (13, _), (14, _), (15, _), (84, _), (85, _)] (fun y => G1782 :: Fs) (fun y => []) [_, _, _, _, _] (fun y => []) [] (fun y => True) ⟨rfl, rfl, rfl, rfl, rfl, rfl, rfl, rfl, rfl, rfl, rfl, rfl, rfl, rfl, rfl, rfl, rfl, rfl, rfl, trivial⟩ [0, 1, 2, 3, 4] rfl [] rfl ?_ ?_
                      · rintro _ _
                        refine Cov.prune [(97, .bool (decide ((v1941 = true) ∨ (x1969.1 = x1773.1)))), (16, _), (86, _), (8, _), (66, _), (59, _), (4, _), (5, _), (57, _), (58, _), (9, _), (10, _), (64, _), (65, _), (12, _), (13, _), (14, _), (15, _), (84, _), (85, _)] ⟨rfl, rfl, rfl, rfl, rfl, rfl, rfl, rfl, rfl, rfl, rfl, rfl, rfl, rfl, rfl, rfl, rfl, rfl, rfl, rfl, trivial⟩ ?_
                        refine Cov.same (bl' := [_, _, _, _, _]) (sl' := []) (Fs' := G1782 :: Fs) rfl rfl rfl ?_
                        refine Cov.q .ro (.assign rfl) rfl ?_
                        refine Cov.region_end ?_
                        refine Cov.inBlock ?_
                        refine Cov.region rfl ?_
                        refine Cov.q .ro (.addw rfl rfl) rfl ?_
                        refine Cov.q .ro (.move rfl) rfl ?_
                        refine Cov.region_end ?_
                        refine Cov.drop 1 0 [_, _, _, _] _ rfl rfl ?_
                        refine Cov.prune _ ?_ (Cov.same rfl rfl rfl (hb1943 ((i1938 + 1), xs1970, (decide ((v1941 = true) ∨ (x1969.1 = x1773.1)))) ⟨(drop_succ g1940), r1968⟩ (Nat.lt_succ_self _)))
                        exact ⟨rfl, (congrArg (fun z => some (Value.int .i64 z)) (idx_wrap (SlR.len s1798) g1940)), rfl, rfl, rfl, rfl, rfl, rfl, rfl, rfl, rfl, rfl, rfl, rfl, rfl, rfl, rfl, rfl, rfl, trivial⟩
                      · intro hb1976
                        refine Cov.split_b 91 rfl (fun c1975 => ?_) (fun c1975 => ?_)
                        · refine Cov.g_off rfl rfl rfl ?_
                          refine Cov.g_off rfl rfl rfl ?_
                          refine Cov.g_off rfl rfl rfl ?_
                          refine Cov.g_off rfl rfl rfl ?_
                          refine Cov.g_off rfl rfl rfl ?_
                          refine Cov.q .ro (.pick_t rfl rfl) rfl ?_
                          refine Cov.prune _ ?_ (Cov.same rfl rfl rfl (hb1976 () trivial))
                          exact ⟨dor_t c1975, rfl, rfl, rfl, rfl, rfl, rfl, rfl, rfl, rfl, rfl, rfl, rfl, rfl, rfl, rfl, rfl, rfl, rfl, rfl, trivial⟩
                        · refine Cov.g_on rfl ?_
                          refine Cov.q .ro (.fieldAddr 0 rfl fl63_0 ty9.sz rfl) rfl ?_
                          refine Cov.g_on rfl ?_
                          refine Cov.q .ro (.load_own 0 rfl rfl ty9 rfl) rfl ?_
                          refine Cov.g_on rfl ?_
                          refine Cov.q .ro (.fieldAddr 0 rfl fl63_0 ty9.sz rfl) rfl ?_
                          refine Cov.g_on rfl ?_
                          refine Cov.q .ro (.load_own 1 rfl rfl ty9 rfl) rfl ?_
                          refine Cov.g_on rfl ?_
                          refine Cov.q .ro (.eql_s rfl rfl) rfl ?_
                          refine Cov.q .ro (.pick_f rfl rfl) rfl ?_
                          refine Cov.prune _ ?_ (Cov.same rfl rfl rfl (hb1976 () trivial))
                          exact ⟨dor_f (bne_of c1975), rfl, rfl, rfl, rfl, rfl, rfl, rfl, rfl, rfl, rfl, rfl, rfl, rfl, rfl, rfl, rfl, rfl, rfl, rfl, trivial⟩
        · intro hb69
          refine Cov.split_b 51 rfl (fun c68 => ?_) (fun c68 => ?_)
          · have r1979 := ifT h71 c68
            refine Cov.dgq_off rfl rfl rfl ?_
            refine Cov.dge_offL rfl rfl rfl (HpLe.refl _) (pick_mem [0, 1, 2] rfl) ?_
            refine Cov.dgq_off rfl rfl rfl ?_
            refine Cov.dq (.pick_t rfl rfl) rfl ?_
            refine Cov.prune _ ?_ (Cov.same rfl rfl rfl (hb69 () trivial))
            exact ⟨sval r1979, rfl, rfl, rfl, trivial⟩
          · have r1980 := ifBF h71 c68
            refine Cov.dgq_on rfl ?_
            refine Cov.dq (.load_own_a 0 [_, _, _, _] rfl rfl ty57 rfl) rfl ?_
            refine Cov.dge_on rfl ?_
            obtain ⟨u1981, hu1981, r1982⟩ := bind_some r1980; clear r1980
            refine Cov.callS (b1 := []) (b2 := [_, _, _]) (s1 := []) [_] [] .d1 rfl rfl Try.call17 rfl rfl (ref14_Check_c (G := G41) List.mem_cons_self s47 hu1981) rfl (fun v1984 bo so h1983 => ?_)
            obtain ⟨rfl, rfl, rfl⟩ := h1983
            refine Cov.same (bl' := [_, _, _]) (sl' := []) rfl rfl rfl ?_
            refine Cov.clsL (HpLe.refl _) (pick_mem [0, 1, 2] rfl) ?_
            refine Cov.dgq_on rfl ?_
            refine Cov.dq (.neq rfl rfl) rfl ?_
            refine Cov.dq (.pick_f rfl rfl) rfl ?_
            refine Cov.prune _ ?_ (Cov.same rfl rfl rfl (hb69 () trivial))
            exact ⟨sval r1982, rfl, rfl, rfl, trivial⟩
      · intro hb58
        refine Cov.split 45 rfl (fun c57 => ?_) (fun c57 => ?_)
        · have r1985 := ifT h60 c57
          refine Cov.dgq_off rfl rfl rfl ?_
          refine Cov.dgq_off rfl rfl rfl ?_
          refine Cov.dge_offL rfl rfl rfl (HpLe.refl _) (pick_mem [0, 1, 2] rfl) ?_
          refine Cov.dgq_off rfl rfl rfl ?_
          refine Cov.dq (.pick_t rfl rfl) rfl ?_
          refine Cov.prune _ ?_ (Cov.same rfl rfl rfl (hb58 () trivial))
          exact ⟨sval r1985, rfl, rfl, rfl, trivial⟩
        · have r1986 := ifF h60 c57
          refine Cov.dgq_on rfl ?_
          refine Cov.dq (.fieldAddr 2 rfl fl57_2 ty3.sz rfl) rfl ?_
          refine Cov.dgq_on rfl ?_
          refine Cov.dq (.load_own 0 rfl rfl ty3 rfl) rfl ?_
          refine Cov.dge_on rfl ?_
          obtain ⟨u1987, hu1987, r1988⟩ := bind_some r1986; clear r1986
          refine Cov.callS (b1 := []) (b2 := [_, _, _]) (s1 := []) [_] [] .d1 rfl rfl Try.call16 rfl rfl (lookup_Width_c (G := G41) List.mem_cons_self  hu1987) rfl (fun v1990 bo so h1989 => ?_)
          obtain ⟨rfl, rfl, rfl⟩ := h1989
          refine Cov.same (bl' := [_, _, _]) (sl' := []) rfl rfl rfl ?_
          refine Cov.clsL (HpLe.refl _) (pick_mem [0, 1, 2] rfl) ?_
          refine Cov.dgq_on rfl ?_
          refine Cov.dq (.neq rfl rfl) rfl ?_
          refine Cov.dq (.pick_f rfl rfl) rfl ?_
          refine Cov.prune _ ?_ (Cov.same rfl rfl rfl (hb58 () trivial))
          exact ⟨sval r1988, rfl, rfl, rfl, trivial⟩
    · intro hb50
      refine Cov.split 36 rfl (fun c49 => ?_) (fun c49 => ?_)
      · refine Cov.dgq_off rfl rfl rfl ?_
        refine Cov.dgq_off rfl rfl rfl ?_
        refine Cov.dgq_off rfl rfl rfl ?_
        refine Cov.dgq_off rfl rfl rfl ?_
        refine Cov.dgq_off rfl rfl rfl ?_
        refine Cov.dgq_off rfl rfl rfl ?_
        refine Cov.dgq_off rfl rfl rfl ?_
        refine Cov.dq (.pick_t rfl rfl) rfl ?_
        refine Cov.prune _ ?_ (Cov.same rfl rfl rfl (hb50 () trivial))
        exact ⟨dor_t c49, rfl, rfl, rfl, trivial⟩
      · refine Cov.dgq_on rfl ?_
        refine Cov.dq (.fieldAddr 3 rfl fl57_3 ty55.sz rfl) rfl ?_
        refine Cov.dgq_on rfl ?_
        refine Cov.dq (.load_own 0 rfl rfl ty55 rfl) rfl ?_
        refine Cov.dgq_on rfl ?_
        refine Cov.dq (.len_sl rfl rfl sl55) rfl ?_
        refine Cov.dgq_on rfl ?_
        refine Cov.dq (.fieldAddr 0 rfl fl31_0 ty28.sz rfl) rfl ?_
        refine Cov.dgq_on rfl ?_
        refine Cov.dq (.fieldAddr 0 rfl fl28_0 ty3.sz rfl) rfl ?_
        refine Cov.dgq_on rfl ?_
        refine Cov.dq (.load_own 1 rfl rfl ty3 rfl) rfl ?_
        refine Cov.dgq_on rfl ?_
        refine Cov.dq (.neq rfl rfl) rfl ?_
        refine Cov.dq (.pick_f rfl rfl) rfl ?_
        refine Cov.prune _ ?_ (Cov.same rfl rfl rfl (hb50 () trivial))
        exact ⟨dor_f c49, rfl, rfl, rfl, trivial⟩
end Go.Proofs.Ytmfppphlhgneeaa
end

section
namespace Go.Proofs.Ytmfppphlhgneeaa
set_option linter.unusedVariables false
def cuckoo_placing_place_B1 (rec9999 : ((List (List Int)) × (List Int) × (List Bool)) → Int → (List Bool) → Option (Bool × (List Int) × (List Bool))) (z130 : Int) (z133 : List (List Int)) (z134 : List Bool) (rec112 : (List Bool) → (List Int) → Option (Bool × (List Int) × (List Bool))) (x136 : Int) (v116 : List Bool) (v122 : List Int) : Option (Bool × (List Int) × (List Bool)) :=
  (lidx v116 x136).bind fun u141 => (if (u141 = true) then (some true) else (lidx z134 x136).bind fun u226 => some u226).bind fun u153 => if (u153 = true) then (rec112 v116 v122) else
(lidx v122 x136).bind fun u161 => if (u161 < 0) then ((lidx v122 x136).bind fun u168 => (lupd v122 x136 z130).bind fun u173 => some (true, u173, v116)) else
(lidx v116 x136).bind fun u180 => (lupd v116 x136 true).bind fun u185 => (lidx v122 x136).bind fun u191 => (rec9999 (z133, v122, z134) u191 u185).bind fun u196 => if (u196.1 = true) then ((lidx u196.2.1 x136).bind fun u212 => (lupd u196.2.1 x136 z130).bind fun u217 => some (true, u217, u196.2.2)) else
rec112 u196.2.2 u196.2.1
def cuckoo_placing_place_L1 (rec9999 : ((List (List Int)) × (List Int) × (List Bool)) → Int → (List Bool) → Option (Bool × (List Int) × (List Bool))) (z130 : Int) (z133 : List (List Int)) (z134 : List Bool) : (List Int) → (List Bool) → (List Int) → Option (Bool × (List Int) × (List Bool))
  | [], v116, v122 => some (false, v122, v116)
  | x136 :: xs, v116, v122 => cuckoo_placing_place_B1 rec9999 z130 z133 z134 (cuckoo_placing_place_L1 rec9999 z130 z133 z134 xs) x136 v116 v122
def cuckoo_placing_place_B2 (rec9999 : ((List (List Int)) × (List Int) × (List Bool)) → Int → (List Bool) → Option (Bool × (List Int) × (List Bool))) (x0 : ((List (List Int)) × (List Int) × (List Bool))) (x1 : Int) (x2 : (List Bool)) : Option (Bool × (List Int) × (List Bool)) :=
  (lidx x0.1 x1).bind fun u4 => cuckoo_placing_place_L1 rec9999 x1 x0.1 x0.2.2 u4 x2 x0.2.1
def cuckoo_placing_place_R : Nat → ((List (List Int)) × (List Int) × (List Bool)) → Int → (List Bool) → Option (Bool × (List Int) × (List Bool))
  | 0, _, _, _ => none
  | n + 1, x0, x1, x2 => cuckoo_placing_place_B2 (cuckoo_placing_place_R n) x0 x1 x2
end Go.Proofs.Ytmfppphlhgneeaa
end

section
namespace Go.Proofs.Ytmfppphlhgneeaa
def stp (b : Int) : Nat → Int → Nat
  | 0, _ => 1
  | k + 1, n => if n ≤ b then 1 else 1 + stp b k ((n + b - 1) / b)
def st (b n : Int) : Nat := stp b 256 n
end Go.Proofs.Ytmfppphlhgneeaa
end

section
namespace Go.Proofs.Ytmfppphlhgneeaa
theorem nz_ok {y : Int} (h : y ≠ 0) : nz y = some () := by unfold nz; rw [if_neg h]
theorem lidx_ok {α : Type} {l : List α} {i : Int} (d : α) (h0 : 0 ≤ i) (h1 : i < l.length) : lidx l i = some (l.getD i.toNat d) := by
  refine lidx_of h0 ?_
  rw [List.getD_eq_getElem?_getD]
  have : i.toNat < l.length := by omega
  simp [this]
theorem lidx_nat {α : Type} {l : List α} {i : Nat} (d : α) (h1 : i < l.length) : lidx l (i : Int) = some (l.getD i d) := by
  rw [lidx_ok d (by omega) (by omega), Int.toNat_natCast]
theorem lapp_ok {α : Type} {l m : List α} (h : l.length + m.length ≤ 16777216) : lapp l m = some (l ++ m) := by unfold lapp; rw [if_pos h]
theorem lsub_ok {α : Type} {l : List α} {i j : Int} (h0 : 0 ≤ i) (h1 : i ≤ j) (h2 : j ≤ l.length) : lsub l i j = some ((l.drop i.toNat).take (j - i).toNat) := by unfold lsub; rw [if_pos ⟨h0, h1, h2⟩]
theorem lupd_ok {α : Type} {l : List α} {i : Int} {y : α} (h0 : 0 ≤ i) (h1 : i < l.length) : lupd l i y = some (l.set i.toNat y) := by unfold lupd; rw [if_pos ⟨h0, h1⟩]
end Go.Proofs.Ytmfppphlhgneeaa
end

section
namespace Go.Proofs.Ytmfppphlhgneeaa
abbrev gd (l : List ByteArray) (i : Nat) : ByteArray := l.getD i ByteArray.empty
def okAt (l : List ByteArray) (i : Nat) : Prop := (1 ≤ (gd l i).size ∧ (gd l i).size ≤ 32) ∧ (i = 0 ∨ sLt (gd l (i - 1)) (gd l i))
instance (l : List ByteArray) (i : Nat) : Decidable (okAt l i) := by unfold okAt; infer_instance
def AscF (l : List ByteArray) (i : Nat) : Prop := ∀ j, j < l.length → i ≤ j → okAt l j
instance (l : List ByteArray) (i : Nat) : Decidable (AscF l i) := by unfold AscF; infer_instance
def AscP (l : List ByteArray) : Prop := ∀ j, j < l.length → okAt l j
instance (l : List ByteArray) : Decidable (AscP l) := by unfold AscP; infer_instance
def KeyP (w : ByteArray) : Prop := 1 ≤ w.size ∧ w.size ≤ 32
instance (w : ByteArray) : Decidable (KeyP w) := by unfold KeyP; infer_instance
theorem nb_t {p : Prop} [Decidable p] (h : p) : ¬ ((!decide p) = true) := by simp [h]
theorem nb_f {p : Prop} [Decidable p] (h : ¬ p) : (!decide p) = true := by simp [h]
theorem proper_eq (w : ByteArray) : fence_proper w = some (decide (KeyP w)) := by
  unfold fence_proper; exact congrArg some (decide_eq_decide.2 (by unfold KeyP; omega))
theorem key_eq (w : ByteArray) : ref20_Key w = some (decide (KeyP w)) := by
  unfold ref20_Key; exact congrArg some (decide_eq_decide.2 (by unfold KeyP; omega))
theorem drop_gd {l xs : List ByteArray} {x : ByteArray} {i : Nat} (h : l.drop i = x :: xs) : i < l.length ∧ x = gd l i := by
  have h1 := drop_lt h
  have h2 := drop_idx h
  rw [lidx_nat .empty (by omega)] at h2
  exact ⟨by omega, (Option.some.inj h2).symm⟩
theorem asc_L {z : List ByteArray} (hz : z.length ≤ 10000000) : ∀ (xs : List ByteArray) (i : Nat), z.drop i = xs → fence_ascend_L1 z xs i = some (decide (AscF z i))
  | [], i, h => by
    have := drop_nil h
    show some true = _
    congr 1
    exact (decide_eq_true (fun j h1 h2 => by omega)).symm
  | x :: xs, i, h => by
    obtain ⟨hi, rfl⟩ := drop_gd h
    show fence_ascend_B1 z (fence_ascend_L1 z xs (i + 1)) (gd z i) i = _
    unfold fence_ascend_B1
    rw [asc_L hz xs (i + 1) (drop_succ h), proper_eq]
    simp only [Option.bind_some]
    have e2 : (if (0 < (i : Int)) then ((lidx z (w64 ((i : Int) - 1))).bind fun u127 => some (decide (¬ sLt u127 (gd z i)))) else some false) = some (decide (i ≠ 0 ∧ ¬ sLt (gd z (i - 1)) (gd z i))) := by
      by_cases h0 : i = 0
      · rw [if_neg (by omega)]; simp [h0]
      · rw [if_pos (by omega), w64_id (by omega) (by omega), show ((i : Int) - 1) = ((i - 1 : Nat) : Int) by omega, lidx_nat .empty (by omega)]
        simp [h0]
    rw [e2]
    simp only [Option.bind_some]
    have e3 : (if (!decide (KeyP (gd z i))) = true then some true else some (decide (i ≠ 0 ∧ ¬ sLt (gd z (i - 1)) (gd z i)))) = some (decide (¬ okAt z i)) := by
      by_cases hk : KeyP (gd z i)
      · rw [if_neg (nb_t hk)]
        congr 1
        rw [decide_eq_decide]
        unfold okAt
        constructor
        · rintro ⟨h1, h2⟩ ⟨_, h3 | h3⟩
          · exact h1 h3
          · exact h2 h3
        · intro h1
          exact ⟨fun h2 => h1 ⟨hk, .inl h2⟩, fun h2 => h1 ⟨hk, .inr h2⟩⟩
      · rw [if_pos (nb_f hk)]
        congr 1
        exact (decide_eq_true (p := ¬ okAt z i) (fun h1 => hk h1.1)).symm
    rw [e3]
    simp only [Option.bind_some]
    by_cases ok : okAt z i
    · rw [if_neg (by simp [ok])]
      congr 1
      rw [decide_eq_decide]
      constructor
      · intro h1 j h2 h3
        rcases Nat.eq_or_lt_of_le h3 with rfl | h4
        · exact ok
        · exact h1 j h2 h4
      · exact fun h1 j h2 h3 => h1 j h2 (by omega)
    · rw [if_pos (by simp [ok])]
      congr 1
      exact (decide_eq_false (fun h1 => ok (h1 i hi (Nat.le_refl _)))).symm
theorem ascend_eq {z : List ByteArray} (hz : z.length ≤ 10000000) : fence_ascend z = some (decide (AscP z)) := by
  unfold fence_ascend
  rw [asc_L hz z 0 rfl]
  congr 1
  rw [decide_eq_decide]
  exact ⟨fun h j h1 => h j h1 (by omega), fun h j h1 _ => h j h1⟩
def FenP (f : Int × List ByteArray) : Prop := ((2 ≤ f.1 ∧ f.1 ≤ 8) ∧ 1 ≤ f.2.length ∧ f.2.length ≤ 256) ∧ AscP f.2
instance (f : Int × List ByteArray) : Decidable (FenP f) := by unfold FenP; infer_instance
theorem asc_lt {l : List ByteArray} (h : AscP l) : ∀ {j i : Nat}, i < j → j < l.length → sLt (gd l i) (gd l j)
  | 0, i, h0, _ => by omega
  | j + 1, i, h0, h1 => by
    rcases (h (j + 1) h1).2 with h2 | h2
    · omega
    · simp only [Nat.add_sub_cancel] at h2
      rcases Nat.lt_or_ge i j with h3 | h3
      · exact sLt_trans (asc_lt h h3 (by omega)) h2
      · obtain rfl : i = j := by omega
        exact h2
end Go.Proofs.Ytmfppphlhgneeaa
end

section
namespace Go.Proofs.Ytmfppphlhgneeaa
abbrev gl (L : List (List ByteArray)) (i : Nat) : List ByteArray := L.getD i []
end Go.Proofs.Ytmfppphlhgneeaa
end

section
namespace Go.Proofs.Ytmfppphlhgneeaa
def bk (L : List (List ByteArray)) : Nat → List (Int × List ByteArray)
  | 0 => []
  | m + 1 => ((m : Int), gl L m) :: bk L m
end Go.Proofs.Ytmfppphlhgneeaa
end

section
namespace Go.Proofs.Ytmfppphlhgneeaa
set_option linter.unusedVariables false
def DiceOK (d : List Int × Int) : Prop := 0 ≤ d.2 ∧ d.2 ≤ 1000 ∧ d.1.length ≤ 300 ∧ ∀ x ∈ d.1, 0 ≤ x ∧ x ≤ 255
theorem dpick {d : List Int × Int} (hd : DiceOK d) {n : Int} (hn : 1 ≤ n) : ∃ v e, play_Dice_Pick d n = some (v, e) ∧ 0 ≤ v ∧ v < n ∧ DiceOK e := by
  obtain ⟨h1, h2, h3, h4⟩ := hd
  unfold play_Dice_Pick
  by_cases hl : (d.1.length : Int) ≤ d.2
  · rw [if_pos hl]; exact ⟨0, d, rfl, by omega, by omega, h1, h2, h3, h4⟩
  · rw [if_neg hl, w64_id (x := d.2 + 1) (by omega) (by omega), show d.2 + 1 - 1 = d.2 from by omega, w64_id (x := d.2) (by omega) (by omega), lidx_ok 0 h1 (by omega), Option.bind_some, nz_ok (by omega), Option.bind_some]
    generalize hx : d.1.getD d.2.toNat 0 = x
    have hm : x ∈ d.1 := by
      rw [← hx, List.getD_eq_getElem?_getD, List.getElem?_eq_getElem (by omega)]
      exact List.getElem_mem _
    have hxr := h4 x hm
    rw [w64_id (x := x) (by omega) (by omega)]
    exact ⟨_, _, rfl, Int.tmod_nonneg _ (by omega), Int.tmod_lt_of_pos _ (by omega), by dsimp only; omega, by dsimp only; omega, h3, h4⟩
theorem dnew {t : List Int} (ht : ∀ x ∈ t, 0 ≤ x ∧ x ≤ 255) : ∃ d, play_New t = some d ∧ DiceOK d := by
  unfold play_New play_New_J1
  by_cases hl : 300 < (t.length : Int)
  · rw [if_pos hl, lsub_ok (by omega) (by omega) (by omega), Option.bind_some]
    refine ⟨_, rfl, by dsimp only; omega, by dsimp only; omega, ?_, fun x hx => ht x ?_⟩
    · simp; omega
    · simp only [Int.toNat_zero, List.drop_zero] at hx
      exact List.mem_of_mem_take hx
  · rw [if_neg hl]
    exact ⟨_, rfl, by dsimp only; omega, by dsimp only; omega, by dsimp only; omega, ht⟩
end Go.Proofs.Ytmfppphlhgneeaa
end

section
namespace Go.Proofs.Ytmfppphlhgneeaa
set_option linter.unusedVariables false
set_option maxRecDepth 100000
theorem lmk_ok {α : Type} {n : Int} {z : α} (h0 : 0 ≤ n) (h1 : n ≤ 16777216) : lmk n z = some (List.replicate n.toNat z) := by unfold lmk; rw [if_pos ⟨h0, h1⟩]
theorem sane35 : law35_sane = some true := by kernel_rfl
end Go.Proofs.Ytmfppphlhgneeaa
end

section
namespace Go.Proofs.Ytmfppphlhgneeaa
set_option linter.unusedVariables false
def at' {α : Type} (d : α) (l : List α) (b : Int) : α := l.getD b.toNat d
theorem at_idx {α : Type} (d : α) {l : List α} {b : Int} (h0 : 0 ≤ b) (h1 : b < l.length) : lidx l b = some (at' d l b) := lidx_ok d h0 h1
theorem at_set {α : Type} (d : α) {l : List α} {b c : Int} {y : α} (h0 : 0 ≤ b) (h1 : b < l.length) (hc : 0 ≤ c) : at' d (l.set b.toNat y) c = if c = b then y else at' d l c := by
  unfold at'
  rw [List.getD_eq_getElem?_getD, List.getElem?_set]
  by_cases h : c = b
  · subst h; rw [if_pos rfl, if_pos rfl, if_pos (by omega)]; rfl
  · rw [if_neg (by omega), if_neg h, List.getD_eq_getElem?_getD]
theorem at_mem {α : Type} (d : α) {l : List α} {b : Int} (h0 : 0 ≤ b) (h1 : b < l.length) : at' d l b ∈ l := by
  unfold at'
  rw [List.getD_eq_getElem?_getD, List.getElem?_eq_getElem (by omega)]
  exact List.getElem_mem _
theorem at_of_mem {α : Type} (d : α) {l : List α} {x : α} (h : x ∈ l) : ∃ b : Int, 0 ≤ b ∧ b < l.length ∧ at' d l b = x := by
  obtain ⟨i, hi, rfl⟩ := List.getElem_of_mem h
  refine ⟨i, by omega, by omega, ?_⟩
  unfold at'
  rw [Int.toNat_natCast, List.getD_eq_getElem?_getD, List.getElem?_eq_getElem hi]; rfl
theorem count_setN {α : Type} [DecidableEq α] (d j y : α) : ∀ (l : List α) (n : Nat), n < l.length → (l.set n y).count j + (if l.getD n d = j then 1 else 0) = l.count j + (if y = j then 1 else 0)
  | [], n, h => by simp at h
  | x :: l, 0, h => by
    simp only [List.set_cons_zero, List.getD_cons_zero, List.count_cons, beq_iff_eq]
    omega
  | x :: l, n + 1, h => by
    have := count_setN d j y l n (by simpa using h)
    simp only [List.set_cons_succ, List.getD_cons_succ, List.count_cons]
    omega
theorem count_set' {α : Type} [DecidableEq α] (d : α) (j y : α) {l : List α} {b : Int} (h0 : 0 ≤ b) (h1 : b < l.length) : (l.set b.toNat y).count j + (if at' d l b = j then 1 else 0) = l.count j + (if y = j then 1 else 0) :=
  count_setN d j y l b.toNat (by omega)
theorem count_false_lt {l : List Bool} {b : Int} (h0 : 0 ≤ b) (h1 : b < l.length) (h : at' false l b = false) : (l.set b.toNat true).count false + 1 = l.count false := by
  have := count_set' false false true h0 h1
  rw [h] at this
  simpa using this
theorem count_le_of {s t : List Bool} (hl : s.length = t.length) (h : ∀ b : Int, 0 ≤ b → b < s.length → at' false s b = true → at' false t b = true) : t.count false ≤ s.count false := by
  induction s generalizing t with
  | nil => cases t with
    | nil => simp
    | cons _ _ => simp at hl
  | cons x s ih =>
    cases t with
    | nil => simp at hl
    | cons y t =>
      simp only [List.length_cons, Nat.add_right_cancel_iff] at hl
      have h1 := ih hl fun b h0 hb ht => by
        have := h (b + 1) (by omega) (by simp; omega)
        have e : (b + 1).toNat = b.toNat + 1 := by omega
        simp only [at', e, List.getD_cons_succ] at this
        exact this ht
      have h2 := h 0 (by omega) (by simp only [List.length_cons]; omega)
      simp only [at', Int.toNat_zero, List.getD_cons_zero] at h2
      simp only [List.count_cons]
      cases x <;> cases y
      · simp; omega
      · simp; omega
      · exact absurd (h2 rfl) (by simp)
      · simp; omega
def HomesOK (B : Int) (homes : List (List Int)) : Prop := ∀ l ∈ homes, ∀ b ∈ l, 0 ≤ b ∧ b < B
def BkOK (B : Int) (homes : List (List Int)) (bk : List Int) : Prop := (bk.length : Int) = B ∧ ∀ v ∈ bk, -1 ≤ v ∧ v < homes.length
abbrev Bk := List Int
structure Won (B : Int) (homes : List (List Int)) (fixed seen : List Bool) (i : Int) (bk bk' : Bk) : Prop where
  ok : BkOK B homes bk'
  still : ∀ b, 0 ≤ b → b < B → (at' false seen b = true ∨ at' false fixed b = true) → at' (-1) bk' b = at' (-1) bk b
  kept : ∀ b, 0 ≤ b → b < B → 0 ≤ at' (-1) bk b → 0 ≤ at' (-1) bk' b
  edge : ∀ b, 0 ≤ b → b < B → at' (-1) bk' b = at' (-1) bk b ∨ (0 ≤ at' (-1) bk' b ∧ b ∈ at' [] homes (at' (-1) bk' b))
  count : ∀ j, 0 ≤ j → bk'.count j = bk.count j + if i = j then 1 else 0
structure Lost (B : Int) (homes : List (List Int)) (fixed seen seen' : List Bool) (hs : List Int) (bk : Bk) : Prop where
  all : ∀ b ∈ hs, at' false fixed b = true ∨ at' false seen' b = true
  closed : ∀ b, 0 ≤ b → b < B → at' false seen' b = true → at' false seen b = false → 0 ≤ at' (-1) bk b ∧ at' false fixed b = false ∧ ∀ c ∈ at' [] homes (at' (-1) bk b), at' false fixed c = true ∨ at' false seen' c = true
def SeenLe (B : Int) (s t : List Bool) : Prop := ∀ b, 0 ≤ b → b < B → at' false s b = true → at' false t b = true
theorem place_loop (B : Int) (homes : List (List Int)) (fixed : List Bool) (hh : HomesOK B homes) (hf : (fixed.length : Int) = B) (i : Int) (hi : 0 ≤ i ∧ i < homes.length) (m : Nat)
    (ih : ∀ (i : Int) (seen : List Bool) (bk : Bk), 0 ≤ i → i < homes.length → (seen.length : Int) = B → BkOK B homes bk → seen.count false < m → ∃ r bk' seen', cuckoo_placing_place_R m (homes, bk, fixed) i seen = some (r, bk', seen') ∧ (seen'.length : Int) = B ∧ SeenLe B seen seen' ∧
      (r = true → Won B homes fixed seen i bk bk') ∧ (r = false → bk' = bk ∧ Lost B homes fixed seen seen' (at' [] homes i) bk)) :
    ∀ (hs : List Int) (seen : List Bool) (bk : Bk), (∀ b ∈ hs, b ∈ at' [] homes i) → (seen.length : Int) = B → BkOK B homes bk → seen.count false < m + 1 →
      ∃ r bk' seen', cuckoo_placing_place_L1 (cuckoo_placing_place_R m) i homes fixed hs seen bk = some (r, bk', seen') ∧ (seen'.length : Int) = B ∧ SeenLe B seen seen' ∧
        (r = true → Won B homes fixed seen i bk bk') ∧ (r = false → bk' = bk ∧ Lost B homes fixed seen seen' hs bk)
  | [], seen, bk, _, hs, hb, _ => ⟨false, bk, seen, rfl, hs, fun _ _ _ h => h, by simp, fun _ => ⟨rfl, by simp, fun b _ _ h1 h2 => by rw [h1] at h2; cases h2⟩⟩
  | b :: hs, seen, bk, hm, hs', hb, hc => by
    have hbi : b ∈ at' [] homes i := hm b List.mem_cons_self
    obtain ⟨b0, bB⟩ := hh _ (at_mem [] hi.1 hi.2) b hbi
    have ih2 := fun seen bk => place_loop B homes fixed hh hf i hi m ih hs seen bk (fun c h => hm c (List.mem_cons_of_mem _ h))
    rw [cuckoo_placing_place_L1]
    unfold cuckoo_placing_place_B1
    rw [at_idx false b0 (by omega), at_idx false b0 (by omega)]
    simp only [Option.bind_some]
    have hskip : (at' false seen b = true ∨ at' false fixed b = true) → ∃ r bk' seen', cuckoo_placing_place_L1 (cuckoo_placing_place_R m) i homes fixed hs seen bk = some (r, bk', seen') ∧ (seen'.length : Int) = B ∧ SeenLe B seen seen' ∧
        (r = true → Won B homes fixed seen i bk bk') ∧ (r = false → bk' = bk ∧ Lost B homes fixed seen seen' (b :: hs) bk) := fun hsf => by
      obtain ⟨r, bk', seen', e, h1, h2, h3, h4⟩ := ih2 seen bk hs' hb hc
      refine ⟨r, bk', seen', e, h1, h2, h3, fun hr => ⟨(h4 hr).1, fun c hc' => ?_, (h4 hr).2.closed⟩⟩
      rcases List.mem_cons.1 hc' with rfl | hc'
      · rcases hsf with h | h
        · exact .inr (h2 _ b0 bB h)
        · exact .inl h
      · exact (h4 hr).2.all c hc'
    by_cases h1 : at' false seen b = true
    · rw [if_pos h1]; simp only [Option.bind_some, if_true]; exact hskip (.inl h1)
    · rw [if_neg h1]
      simp only [Option.bind_some]
      by_cases h2 : at' false fixed b = true
      · rw [if_pos h2]; exact hskip (.inr h2)
      · rw [if_neg h2, at_idx (-1) b0 (by rw [hb.1]; exact bB)]
        simp only [Option.bind_some]
        have h1' : at' false seen b = false := by simpa using h1
        have h2' : at' false fixed b = false := by simpa using h2
        have hbl : b < bk.length := by rw [hb.1]; exact bB
        by_cases h3 : at' (-1) bk b < 0
        · rw [if_pos h3, lupd_ok b0 hbl]
          simp only [Option.bind_some]
          refine ⟨true, _, seen, rfl, hs', fun _ _ _ h => h, fun _ => ⟨⟨by simpa using hb.1, fun v hv => ?_⟩, fun c c0 cB hc' => ?_, fun c c0 cB hc' => ?_, fun c c0 cB => ?_, fun j hj => ?_⟩, by simp⟩
          · rcases List.mem_or_eq_of_mem_set hv with h | rfl
            · exact hb.2 v h
            · omega
          · rw [at_set (-1) b0 hbl c0]
            split
            · rename_i e; subst e; rcases hc' with h | h
              · rw [h1'] at h; cases h
              · rw [h2'] at h; cases h
            · rfl
          · rw [at_set (-1) b0 hbl c0]; split
            · exact hi.1
            · exact hc'
          · rw [at_set (-1) b0 hbl c0]; split
            · rename_i e; subst e; exact .inr ⟨hi.1, hbi⟩
            · exact .inl rfl
          · have := count_set' (-1) j i b0 hbl
            rw [if_neg (by omega : ¬ at' (-1) bk b = j)] at this
            simpa using this
        · rw [if_neg h3, lupd_ok b0 (by omega)]
          simp only [Option.bind_some]
          have hlt : b < seen.length := by omega
          have ho := hb.2 _ (at_mem (-1) b0 hbl)
          obtain ⟨r, bk1, seen1, e1, l1, m1, w1, f1⟩ := ih (at' (-1) bk b) (seen.set b.toNat true) bk (by omega) ho.2 (by simpa using hs') hb (by have := count_false_lt b0 hlt h1'; omega)
          rw [e1]
          simp only [Option.bind_some]
          have hsb : at' false (seen.set b.toNat true) b = true := by rw [at_set false b0 hlt b0, if_pos rfl]
          have hle : SeenLe B seen (seen.set b.toNat true) := fun c c0 cB h => by rw [at_set false b0 hlt c0]; split; rfl; exact h
          cases r with
          | true =>
            have hw := w1 rfl
            have hb1 : b < bk1.length := by rw [hw.ok.1]; exact bB
            rw [if_pos rfl, at_idx (-1) b0 hb1]
            simp only [Option.bind_some]
            rw [lupd_ok b0 hb1]
            simp only [Option.bind_some]
            have hst : at' (-1) bk1 b = at' (-1) bk b := hw.still b b0 bB (.inl hsb)
            refine ⟨true, _, seen1, rfl, l1, fun c c0 cB h => m1 c c0 cB (hle c c0 cB h), fun _ => ⟨⟨by simpa using hw.ok.1, fun v hv => ?_⟩, fun c c0 cB hc' => ?_, fun c c0 cB hc' => ?_, fun c c0 cB => ?_, fun j hj => ?_⟩, by simp⟩
            · rcases List.mem_or_eq_of_mem_set hv with h | rfl
              · exact hw.ok.2 v h
              · omega
            · rw [at_set (-1) b0 hb1 c0]
              split
              · rename_i e; subst e; rcases hc' with h | h
                · rw [h1'] at h; cases h
                · rw [h2'] at h; cases h
              · exact hw.still c c0 cB (hc'.imp (hle c c0 cB) id)
            · rw [at_set (-1) b0 hb1 c0]; split
              · exact hi.1
              · exact hw.kept c c0 cB hc'
            · rw [at_set (-1) b0 hb1 c0]; split
              · rename_i e; subst e; exact .inr ⟨hi.1, hbi⟩
              · exact hw.edge c c0 cB
            · have h5 := count_set' (-1) j i b0 hb1
              have h6 := hw.count j hj
              rw [hst] at h5
              omega
          | false =>
            rw [if_neg (by simp)]
            obtain ⟨rfl, hlost⟩ := f1 rfl
            have hcle := count_le_of (s := seen.set b.toNat true) (t := seen1) (by rw [List.length_set]; omega) (fun c c0 cl h => m1 c c0 (by simp at cl; omega) h)
            have hcl := count_false_lt b0 hlt h1'
            obtain ⟨r, bk2, seen2, e2, l2, m2, w2, f2⟩ := ih2 seen1 bk1 l1 hb (by omega)
            refine ⟨r, bk2, seen2, e2, l2, fun c c0 cB h => m2 c c0 cB (m1 c c0 cB (hle c c0 cB h)), fun hr => ?_, fun hr => ?_⟩
            · have hw := w2 hr
              exact ⟨hw.ok, fun c c0 cB hc' => hw.still c c0 cB (hc'.imp (fun h => m1 c c0 cB (hle c c0 cB h)) id), hw.kept, hw.edge, hw.count⟩
            · obtain ⟨rfl, hl2⟩ := f2 hr
              refine ⟨rfl, fun c hc' => ?_, fun c c0 cB hs2 hs0 => ?_⟩
              · rcases List.mem_cons.1 hc' with rfl | hc'
                · exact .inr (m2 _ b0 bB (m1 _ b0 bB hsb))
                · exact hl2.all c hc'
              · have hup : ∀ x ∈ at' [] homes (at' (-1) bk2 c), 0 ≤ at' (-1) bk2 c → (at' false fixed x = true ∨ at' false seen1 x = true) → at' false fixed x = true ∨ at' false seen2 x = true := fun x hx h0 h => by
                  have hv := hb.2 _ (at_mem (-1) c0 (by rw [hb.1]; exact cB))
                  obtain ⟨x0, xB⟩ := hh _ (at_mem [] h0 hv.2) x hx
                  exact h.imp id (m2 x x0 xB)
                by_cases hs1 : at' false seen1 c = true
                · by_cases hcb : c = b
                  · subst hcb
                    refine ⟨by omega, h2', fun x hx => hup x hx (by omega) (hlost.all x hx)⟩
                  · have hs3 : at' false (seen.set b.toNat true) c = false := by rw [at_set false b0 hlt c0, if_neg hcb]; exact hs0
                    obtain ⟨g1, g2, g3⟩ := hlost.closed c c0 cB hs1 hs3
                    exact ⟨g1, g2, fun x hx => hup x hx g1 (g3 x hx)⟩
                · exact hl2.closed c c0 cB hs2 (by simpa using hs1)
theorem place_ok (B : Int) (homes : List (List Int)) (fixed : List Bool) (hh : HomesOK B homes) (hf : (fixed.length : Int) = B) : ∀ (m : Nat) (i : Int) (seen : List Bool) (bk : Bk), 0 ≤ i → i < homes.length → (seen.length : Int) = B → BkOK B homes bk → seen.count false < m →
    ∃ r bk' seen', cuckoo_placing_place_R m (homes, bk, fixed) i seen = some (r, bk', seen') ∧ (seen'.length : Int) = B ∧ SeenLe B seen seen' ∧ (r = true → Won B homes fixed seen i bk bk') ∧ (r = false → bk' = bk ∧ Lost B homes fixed seen seen' (at' [] homes i) bk)
  | 0, i, seen, bk, _, _, _, _, h => by omega
  | m + 1, i, seen, bk, h0, h1, hs, hb, hc => by
    rw [cuckoo_placing_place_R]
    unfold cuckoo_placing_place_B2
    rw [at_idx [] h0 h1]
    simp only [Option.bind_some]
    exact place_loop B homes fixed hh hf i ⟨h0, h1⟩ m (place_ok B homes fixed hh hf m) _ seen bk (fun _ h => h) hs hb hc
end Go.Proofs.Ytmfppphlhgneeaa
namespace Go.Proofs.Ytmfppphlhgneeaa
set_option linter.unusedVariables false
theorem pig : ∀ {l m : List Int}, l.Nodup → (∀ x ∈ l, x ∈ m) → l.length ≤ m.length
  | [], m, _, _ => by simp
  | x :: l, m, hn, hs => by
    obtain ⟨h1, h2⟩ := List.nodup_cons.1 hn
    have hx := hs x List.mem_cons_self
    have h3 := pig (l := l) (m := m.erase x) h2 fun y hy => by
      have hne : y ≠ x := fun e => h1 (e ▸ hy)
      exact (List.mem_erase_of_ne hne).2 (hs y (List.mem_cons_of_mem _ hy))
    have h4 := List.length_erase_of_mem hx
    have h5 : 0 < m.length := List.length_pos_of_mem hx
    simp only [List.length_cons]; omega
theorem nodup_map {α β : Type} {f : α → β} : ∀ {l : List α}, l.Nodup → (∀ x ∈ l, ∀ y ∈ l, f x = f y → x = y) → (l.map f).Nodup
  | [], _, _ => by simp
  | x :: l, hn, hi => by
    obtain ⟨h1, h2⟩ := List.nodup_cons.1 hn
    rw [List.map_cons, List.nodup_cons]
    refine ⟨fun hm => ?_, nodup_map h2 fun a ha b hb => hi a (List.mem_cons_of_mem _ ha) b (List.mem_cons_of_mem _ hb)⟩
    obtain ⟨y, hy, e⟩ := List.mem_map.1 hm
    have := hi y (List.mem_cons_of_mem _ hy) x List.mem_cons_self e
    exact h1 (this ▸ hy)
theorem at_count {l : List Int} {b c j : Int} (hb : 0 ≤ b ∧ b < l.length) (hc : 0 ≤ c ∧ c < l.length) (h1 : at' (-1) l b = j) (h2 : at' (-1) l c = j) (hne : b ≠ c) : 2 ≤ l.count j := by
  have h3 := count_set' (-1) j (j + 1) hb.1 hb.2
  rw [if_pos h1, if_neg (by omega)] at h3
  have h4 : at' (-1) (l.set b.toNat (j + 1)) c = j := by rw [at_set (-1) hb.1 hb.2 hc.1, if_neg (fun e => hne e.symm)]; exact h2
  have h5 := at_mem (-1) (l := l.set b.toNat (j + 1)) hc.1 (by simpa using hc.2)
  rw [h4] at h5
  have := List.count_pos_iff.2 h5
  omega
theorem at_count1 {l : List Int} {b j : Int} (hb : 0 ≤ b ∧ b < l.length) (h1 : at' (-1) l b = j) : 1 ≤ l.count j := List.count_pos_iff.2 (h1 ▸ at_mem (-1) hb.1 hb.2)
def Places (homes : List (List Int)) (fixed : List Bool) (a : Int) (f : Int → Int) : Prop :=
  (∀ j, a ≤ j → j < homes.length → f j ∈ at' [] homes j ∧ at' false fixed (f j) = false) ∧ ∀ j k, a ≤ j → j < homes.length → a ≤ k → k < homes.length → f j = f k → j = k
def Placeable (homes : List (List Int)) (fixed : List Bool) (a : Int) : Prop := ∃ f, Places homes fixed a f
structure Stand (B : Int) (homes : List (List Int)) (fixed : List Bool) (a i : Int) (bk : Bk) : Prop where
  ok : BkOK B homes bk
  le : ∀ j, 0 ≤ j → bk.count j ≤ 1
  one : ∀ j, a ≤ j → j < i → bk.count j = 1
  none : ∀ j, i ≤ j → bk.count j = 0
  free : ∀ b, 0 ≤ b → b < B → at' false fixed b = false → 0 ≤ at' (-1) bk b → a ≤ at' (-1) bk b ∧ b ∈ at' [] homes (at' (-1) bk b)
  fix : ∀ b, 0 ≤ b → b < B → at' false fixed b = true → at' (-1) bk b < a
theorem Stand.places {B : Int} {homes : List (List Int)} {fixed : List Bool} {a : Int} {bk : Bk} (ha : 0 ≤ a) (h : Stand B homes fixed a homes.length bk) : Placeable homes fixed a := by
  classical
  have hex : ∀ j, a ≤ j → j < homes.length → ∃ b, 0 ≤ b ∧ b < B ∧ at' (-1) bk b = j := fun j h1 h2 => by
    have hm : j ∈ bk := List.count_pos_iff.1 (by rw [h.one j h1 h2]; omega)
    obtain ⟨b, h3, h4, h5⟩ := at_of_mem (-1) hm
    exact ⟨b, h3, by rw [← h.ok.1]; exact h4, h5⟩
  refine ⟨fun j => if hj : ∃ b, 0 ≤ b ∧ b < B ∧ at' (-1) bk b = j then hj.choose else 0, fun j h1 h2 => ?_, fun j k h1 h2 h3 h4 e => ?_⟩
  · have hj := hex j h1 h2
    have := hj.choose_spec
    simp only [dif_pos hj]
    obtain ⟨b0, bB, hb⟩ := this
    by_cases hfx : at' false fixed hj.choose = true
    · have := h.fix _ b0 bB hfx; omega
    · have hfx' : at' false fixed hj.choose = false := by simpa using hfx
      refine ⟨?_, hfx'⟩
      have := (h.free _ b0 bB hfx' (by omega)).2
      rwa [hb] at this
  · have hj := hex j h1 h2
    have hk := hex k h3 h4
    simp only [dif_pos hj, dif_pos hk] at e
    rw [← hj.choose_spec.2.2, ← hk.choose_spec.2.2, e]
theorem no_way {B : Int} {homes : List (List Int)} {fixed seen seen' : List Bool} {a i : Int} {bk : Bk} (hh : HomesOK B homes) (hs : Stand B homes fixed a i bk) (ha : 0 ≤ a ∧ a ≤ i) (hi : i < homes.length) (h0 : ∀ b, 0 ≤ b → b < B → at' false seen b = false)
    (hl : Lost B homes fixed seen seen' (at' [] homes i) bk) : ¬ Placeable homes fixed a := by
  rintro ⟨f, hf1, hf2⟩
  let R : List Int := ((List.range B.toNat).map fun (b : Nat) => (b : Int)).filter fun b => at' false seen' b
  have hR : ∀ b, b ∈ R ↔ (0 ≤ b ∧ b < B) ∧ at' false seen' b = true := fun b => by
    simp only [R, List.mem_filter, List.mem_map, List.mem_range]
    constructor
    · rintro ⟨⟨n, hn, rfl⟩, h⟩; exact ⟨⟨by omega, by omega⟩, h⟩
    · rintro ⟨⟨h1, h2⟩, h⟩; exact ⟨⟨b.toNat, by omega, by omega⟩, h⟩
  have hRn : R.Nodup := List.Pairwise.filter _ (nodup_map List.nodup_range fun x _ y _ e => by omega)
  have hcl : ∀ b ∈ R, 0 ≤ at' (-1) bk b ∧ at' false fixed b = false ∧ ∀ c ∈ at' [] homes (at' (-1) bk b), at' false fixed c = true ∨ at' false seen' c = true := fun b hb => by
    obtain ⟨⟨b0, bB⟩, h⟩ := (hR b).1 hb
    exact hl.closed b b0 bB h (h0 b b0 bB)
  have hin : ∀ b ∈ R, a ≤ at' (-1) bk b ∧ at' (-1) bk b < i := fun b hb => by
    obtain ⟨⟨b0, bB⟩, h⟩ := (hR b).1 hb
    obtain ⟨g1, g2, _⟩ := hcl b hb
    refine ⟨(hs.free b b0 bB g2 g1).1, ?_⟩
    rcases Int.lt_or_le (at' (-1) bk b) i with h | h
    · exact h
    · have h1 := hs.none _ h
      have h2 := at_count1 (l := bk) ⟨b0, by rw [hs.ok.1]; exact bB⟩ rfl
      omega
  -- the items that are in the way, and the new one
  have hXn : (i :: R.map fun b => at' (-1) bk b).Nodup := by
    refine List.nodup_cons.2 ⟨fun hm => ?_, nodup_map hRn fun x hx y hy e => ?_⟩
    · obtain ⟨b, hb, e⟩ := List.mem_map.1 hm
      have := (hin b hb).2; omega
    · rcases Decidable.em (x = y) with h | h
      · exact h
      · obtain ⟨⟨x0, xB⟩, _⟩ := (hR x).1 hx
        obtain ⟨⟨y0, yB⟩, _⟩ := (hR y).1 hy
        have h1 := at_count (l := bk) ⟨x0, by rw [hs.ok.1]; exact xB⟩ ⟨y0, by rw [hs.ok.1]; exact yB⟩ rfl e.symm h
        have h2 := hs.one _ (hin x hx).1 (hin x hx).2
        omega
  have hXr : ∀ x ∈ (i :: R.map fun b => at' (-1) bk b), (a ≤ x ∧ x < homes.length) ∧ f x ∈ R := fun x hx => by
    rcases List.mem_cons.1 hx with rfl | hx
    · obtain ⟨h1, h2⟩ := hf1 x ha.2 hi
      refine ⟨⟨ha.2, hi⟩, (hR _).2 ⟨hh _ (at_mem [] (by omega) hi) _ h1, ?_⟩⟩
      rcases hl.all _ h1 with h | h
      · rw [h2] at h; cases h
      · exact h
    · obtain ⟨b, hb, rfl⟩ := List.mem_map.1 hx
      have hr := hin b hb
      obtain ⟨h1, h2⟩ := hf1 _ hr.1 (by omega)
      refine ⟨⟨hr.1, by omega⟩, (hR _).2 ⟨hh _ (at_mem [] (by omega) (by omega)) _ h1, ?_⟩⟩
      rcases (hcl b hb).2.2 _ h1 with h | h
      · rw [h2] at h; cases h
      · exact h
  have h1 := pig (nodup_map (f := f) hXn fun x hx y hy e => hf2 x y (hXr x hx).1.1 (hXr x hx).1.2 (hXr y hy).1.1 (hXr y hy).1.2 e) (m := R) (fun y hy => by
    obtain ⟨x, hx, rfl⟩ := List.mem_map.1 hy
    exact (hXr x hx).2)
  simp at h1
  omega
theorem Stand.won {B : Int} {homes : List (List Int)} {fixed seen : List Bool} {a i : Int} {bk bk' : Bk} (hs : Stand B homes fixed a i bk) (ha : 0 ≤ a ∧ a ≤ i) (hw : Won B homes fixed seen i bk bk') : Stand B homes fixed a (i + 1) bk' where
  ok := hw.ok
  le j h := by
    rw [hw.count j h]
    by_cases he : i = j
    · rw [if_pos he, hs.none j (by omega)]; omega
    · rw [if_neg he]; exact hs.le j h
  one j h1 h2 := by
    rw [hw.count j (by omega)]
    by_cases h : i = j
    · rw [if_pos h, hs.none j (by omega)]
    · rw [if_neg h, hs.one j h1 (by omega)]
  none j h := by rw [hw.count j (by omega), if_neg (by omega), hs.none j (by omega)]
  free b b0 bB hf hb := by
    rcases hw.edge b b0 bB with h | ⟨_, h⟩
    · rw [h] at hb ⊢; exact hs.free b b0 bB hf hb
    · refine ⟨?_, h⟩
      -- it is i, or stood somewhere
      rcases Int.lt_or_le (at' (-1) bk' b) a with hlt | hge
      · exfalso
        have hne : i ≠ at' (-1) bk' b := by omega
        have h1 := hw.count _ hb
        rw [if_neg hne] at h1
        have h2 := at_count1 (l := bk') ⟨b0, by rw [hw.ok.1]; exact bB⟩ rfl
        have hm : at' (-1) bk' b ∈ bk := List.count_pos_iff.1 (by omega)
        obtain ⟨c, c0, cB, hc⟩ := at_of_mem (-1) hm
        have cB' : c < B := by rw [← hs.ok.1]; exact cB
        by_cases hfc : at' false fixed c = true
        · -- c is fixed, and holds it still; so do two buckets
          have h3 := hw.still c c0 cB' (.inr hfc)
          have hbc : b ≠ c := fun e => by subst e; rw [hf] at hfc; cases hfc
          have h4 := at_count (l := bk') ⟨b0, by rw [hw.ok.1]; exact bB⟩ ⟨c0, by rw [hw.ok.1]; exact cB'⟩ rfl (by rw [h3, hc]) hbc
          have h5 := hs.le _ hb
          omega
        · have := (hs.free c c0 cB' (by simpa using hfc) (by rw [hc]; exact hb)).1
          rw [hc] at this; omega
      · exact hge
  fix b b0 bB hf := by rw [hw.still b b0 bB (.inr hf)]; exact hs.fix b b0 bB hf
end Go.Proofs.Ytmfppphlhgneeaa
namespace Go.Proofs.Ytmfppphlhgneeaa
set_option linter.unusedVariables false
structure Fst (B : Int) (homes : List (List Int)) (fixed : List Bool) (i : Int) (bk : Bk) : Prop where
  ok : BkOK B homes bk
  len : (fixed.length : Int) = B
  le : ∀ j, 0 ≤ j → bk.count j ≤ 1
  fix : ∀ b, 0 ≤ b → b < B → (at' false fixed b = true ↔ 0 ≤ at' (-1) bk b)
  lt : ∀ b, 0 ≤ b → b < B → at' (-1) bk b < i
theorem Fst.stand {B : Int} {homes : List (List Int)} {fixed : List Bool} {i : Int} {bk : Bk} (h : Fst B homes fixed i bk) : Stand B homes fixed i i bk where
  ok := h.ok
  le := h.le
  one j h1 h2 := by omega
  none j hj := by
    rcases Nat.eq_zero_or_pos (bk.count j) with h0 | h0
    · exact h0
    · obtain ⟨b, b0, bB, e⟩ := at_of_mem (-1) (List.count_pos_iff.1 h0)
      have := h.lt b b0 (by rw [← h.ok.1]; exact bB)
      omega
  free b b0 bB hf hb := by have := (h.fix b b0 bB).2 hb; rw [hf] at this; cases this
  fix b b0 bB _ := h.lt b b0 bB
theorem set_at {α : Type} (d : α) {l : List α} {b : Int} {y : α} (h0 : 0 ≤ b) (h1 : b < l.length) (h : at' d l b = y) : l.set b.toNat y = l := by
  have hlt : b.toNat < l.length := by omega
  have : l[b.toNat] = y := by
    rw [← h]; unfold at'; rw [List.getD_eq_getElem?_getD, List.getElem?_eq_getElem hlt]; rfl
  rw [← this]; exact List.set_getElem_self hlt
theorem Fst.take {B : Int} {homes : List (List Int)} {fixed : List Bool} {i b : Int} {bk : Bk} (h : Fst B homes fixed i bk) (hi : 0 ≤ i ∧ i < homes.length) (hb : 0 ≤ b ∧ b < B) (hf : at' false fixed b = false) : Fst B homes (fixed.set b.toNat true) (i + 1) (bk.set b.toNat i) := by
  have hbl : b < bk.length := by rw [h.ok.1]; exact hb.2
  have hfl : b < fixed.length := by rw [h.len]; exact hb.2
  have hneg : ¬ 0 ≤ at' (-1) bk b := fun hh => by have := (h.fix b hb.1 hb.2).2 hh; rw [hf] at this; cases this
  refine ⟨⟨by simpa using h.ok.1, fun v hv => ?_⟩, by simpa using h.len, fun j hj => ?_, fun c c0 cB => ?_, fun c c0 cB => ?_⟩
  · rcases List.mem_or_eq_of_mem_set hv with h1 | rfl
    · exact h.ok.2 v h1
    · omega
  · have h1 := count_set' (-1) j i hb.1 hbl
    rw [if_neg (by omega : ¬ at' (-1) bk b = j)] at h1
    by_cases he : i = j
    · rw [if_pos he] at h1
      have := h.stand.none j (by omega)
      omega
    · rw [if_neg he] at h1; have := h.le j hj; omega
  · rw [at_set false hb.1 hfl c0, at_set (-1) hb.1 hbl c0]
    by_cases he : c = b
    · rw [if_pos he, if_pos he]; simp; exact hi.1
    · rw [if_neg he, if_neg he]; exact h.fix c c0 cB
  · rw [at_set (-1) hb.1 hbl c0]; split
    · omega
    · have := h.lt c c0 cB; omega
theorem Placeable.step {homes : List (List Int)} {fixed : List Bool} {i : Int} {B : Int} (hh : HomesOK B homes) (hf : (fixed.length : Int) = B) (hi : 0 ≤ i ∧ i < homes.length) :
    Placeable homes fixed i ↔ ∃ b ∈ at' [] homes i, at' false fixed b = false ∧ Placeable homes (fixed.set b.toNat true) (i + 1) := by
  constructor
  · rintro ⟨f, h1, h2⟩
    obtain ⟨hm, hfr⟩ := h1 i (Int.le_refl _) hi.2
    obtain ⟨b0, bB⟩ := hh _ (at_mem [] hi.1 hi.2) _ hm
    refine ⟨f i, hm, hfr, f, fun j hj hn => ?_, fun j k hj hn hk hkn e => h2 j k (by omega) hn (by omega) hkn e⟩
    obtain ⟨hm2, hfr2⟩ := h1 j (by omega) hn
    obtain ⟨c0, cB⟩ := hh _ (at_mem [] (by omega) hn) _ hm2
    refine ⟨hm2, ?_⟩
    rw [at_set false b0 (by omega) c0, if_neg]
    · exact hfr2
    · intro e; have := h2 j i (by omega) hn (Int.le_refl _) hi.2 e; omega
  · rintro ⟨b, hm, hfr, f, h1, h2⟩
    obtain ⟨b0, bB⟩ := hh _ (at_mem [] hi.1 hi.2) _ hm
    have hne : ∀ j, i + 1 ≤ j → j < homes.length → f j ≠ b := fun j hj hn e => by
      obtain ⟨hm2, hfr2⟩ := h1 j hj hn
      rw [e, at_set false b0 (by omega) b0, if_pos rfl] at hfr2; cases hfr2
    refine ⟨fun j => if j = i then b else f j, fun j hj hn => ?_, fun j k hj hn hk hkn e => ?_⟩
    · by_cases he : j = i
      · subst he; simp only [if_true]; exact ⟨hm, hfr⟩
      · simp only [if_neg he]
        obtain ⟨hm2, hfr2⟩ := h1 j (by omega) hn
        obtain ⟨c0, cB⟩ := hh _ (at_mem [] (by omega) hn) _ hm2
        rw [at_set false b0 (by omega) c0, if_neg (hne j (by omega) hn)] at hfr2
        exact ⟨hm2, hfr2⟩
    · by_cases he : j = i <;> by_cases hek : k = i
      · omega
      · simp only [he, if_true, if_neg hek] at e; exact absurd e.symm (hne k (by omega) hkn)
      · simp only [hek, if_true, if_neg he] at e; exact absurd e (hne j (by omega) hn)
      · simp only [if_neg he, if_neg hek] at e; exact h2 j k (by omega) hn (by omega) hkn e
end Go.Proofs.Ytmfppphlhgneeaa
namespace Go.Proofs.Ytmfppphlhgneeaa
set_option linter.unusedVariables false
def toL (v : Int) : List Int := if v < 0 then [] else [v]
structure Rel (B : Int) (fixed : List Bool) (used : List Int) (bk : Bk) (inn : List (List Int)) : Prop where
  ul : (used.length : Int) = B
  il : (inn.length : Int) = B
  u : ∀ b, 0 ≤ b → b < B → at' 0 used b = if at' false fixed b = true then 1 else 0
  n : ∀ b, 0 ≤ b → b < B → at' [] inn b = if at' false fixed b = true then [] else toL (at' (-1) bk b)
def SeenR (B : Int) (fixed s t : List Bool) : Prop := (t.length : Int) = B ∧ ∀ b, 0 ≤ b → b < B → at' false fixed b = false → at' false t b = at' false s b
theorem SeenR.set {B : Int} {fixed s t : List Bool} (h : SeenR B fixed s t) {b : Int} (hb : 0 ≤ b ∧ b < B) (hs : (s.length : Int) = B) : SeenR B fixed (s.set b.toNat true) (t.set b.toNat true) :=
  ⟨by simpa using h.1, fun c c0 cB hf => by rw [at_set false hb.1 (by rw [h.1]; exact hb.2) c0, at_set false hb.1 (by rw [hs]; exact hb.2) c0, h.2 c c0 cB hf]⟩
theorem SeenR.setF {B : Int} {fixed s t : List Bool} (h : SeenR B fixed s t) {b : Int} (hb : 0 ≤ b ∧ b < B) (hf : at' false fixed b = true) : SeenR B fixed s (t.set b.toNat true) :=
  ⟨by simpa using h.1, fun c c0 cB hc => by rw [at_set false hb.1 (by rw [h.1]; exact hb.2) c0, if_neg (fun e => by subst e; rw [hf] at hc; cases hc)]; exact h.2 c c0 cB hc⟩
theorem Rel.set {B : Int} {fixed : List Bool} {used : List Int} {bk : Bk} {inn : List (List Int)} (h : Rel B fixed used bk inn) (hbl : (bk.length : Int) = B) {b i : Int} (hb : 0 ≤ b ∧ b < B) (hf : at' false fixed b = false) (hi : 0 ≤ i) : Rel B fixed used (bk.set b.toNat i) (inn.set b.toNat [i]) :=
  ⟨h.ul, by simpa using h.il, h.u, fun c c0 cB => by
    rw [at_set [] hb.1 (by rw [h.il]; exact hb.2) c0, at_set (-1) hb.1 (by omega) c0]
    by_cases e : c = b
    · subst e; rw [if_pos rfl, if_pos rfl, hf]; simp [toL]; omega
    · rw [if_neg e, if_neg e]; exact h.n c c0 cB⟩
def RefP (B : Int) (fixed : List Bool) (used : List Int) (inn : List (List Int)) (r : Bool) (bk' : Bk) (s' : List Bool) (x : Option (Bool × List (List Int) × List Bool)) : Prop :=
  ∃ inn' t', x = some (r, inn', t') ∧ (r = true → Rel B fixed used bk' inn') ∧ (r = false → inn' = inn ∧ SeenR B fixed s' t')
theorem sim_loop (B : Int) (homes : List (List Int)) (fixed : List Bool) (used : List Int) (hh : HomesOK B homes) (hf : (fixed.length : Int) = B) (i : Int) (hi : 0 ≤ i ∧ i < homes.length) (m : Nat)
    (ih : ∀ (i : Int) (s t : List Bool) (bk : Bk) (inn : List (List Int)) (r : Bool) (bk' : Bk) (s' : List Bool), 0 ≤ i → i < homes.length → (s.length : Int) = B → BkOK B homes bk → s.count false < m → Rel B fixed used bk inn → SeenR B fixed s t → cuckoo_placing_place_R m (homes, bk, fixed) i s = some (r, bk', s') →
      RefP B fixed used inn r bk' s' (ref19_place_R m homes inn used 1 i t)) :
    ∀ (hs : List Int) (s t : List Bool) (bk : Bk) (inn : List (List Int)) (r : Bool) (bk' : Bk) (s' : List Bool), (∀ b ∈ hs, b ∈ at' [] homes i) → (s.length : Int) = B → BkOK B homes bk → s.count false < m + 1 → Rel B fixed used bk inn → SeenR B fixed s t → cuckoo_placing_place_L1 (cuckoo_placing_place_R m) i homes fixed hs s bk = some (r, bk', s') →
      RefP B fixed used inn r bk' s' (ref19_place_L2 (ref19_place_R m) homes used 1 i inn hs t)
  | [], s, t, bk, inn, r, bk', s', _, _, _, _, hr, ht, h => by
    rw [cuckoo_placing_place_L1] at h
    cases h
    exact ⟨inn, t, rfl, by simp, fun _ => ⟨rfl, ht⟩⟩
  | b :: hs, s, t, bk, inn, r, bk', s', hm, hsl, hb, hc, hr, ht, h => by
    have hbi : b ∈ at' [] homes i := hm b List.mem_cons_self
    obtain ⟨b0, bB⟩ := hh _ (at_mem [] hi.1 hi.2) b hbi
    have ih2 := fun s t bk inn r bk' s' => sim_loop B homes fixed used hh hf i hi m ih hs s t bk inn r bk' s' (fun c h => hm c (List.mem_cons_of_mem _ h))
    have htl := ht.1
    have hbk := hb.1
    rw [cuckoo_placing_place_L1] at h
    unfold cuckoo_placing_place_B1 at h
    rw [at_idx false b0 (by omega), at_idx false b0 (by omega)] at h
    simp only [Option.bind_some] at h
    rw [ref19_place_L2]
    unfold ref19_place_B2
    rw [at_idx false b0 (by omega)]
    simp only [Option.bind_some]
    have hu := hr.u b b0 bB
    have hn := hr.n b b0 bB
    have hul := hr.ul
    have hil := hr.il
    by_cases hfx : at' false fixed b = true
    · -- a bucket that is fixed
      have h' : cuckoo_placing_place_L1 (cuckoo_placing_place_R m) i homes fixed hs s bk = some (r, bk', s') := by
        rw [hfx] at h
        by_cases h1 : at' false s b = true
        · rw [if_pos h1] at h; simpa using h
        · rw [if_neg h1] at h; simpa using h
      by_cases h1 : at' false t b = true
      · rw [if_pos h1]; exact ih2 s t bk inn r bk' s' hsl hb hc hr ht h'
      · rw [if_neg h1, lupd_ok b0 (by omega)]
        simp only [Option.bind_some]
        rw [at_idx 0 b0 (by omega), at_idx [] b0 (by omega)]
        simp only [Option.bind_some]
        rw [hu, hn, hfx]
        simp only [if_true, List.length_nil]
        rw [if_neg (by rw [w64_id (by omega) (by omega)]; omega)]
        rw [ref19_place_L1]
        exact ih2 s _ bk inn r bk' s' hsl hb hc hr (ht.setF ⟨b0, bB⟩ hfx) h'
    · have hfx' : at' false fixed b = false := by simpa using hfx
      rw [ht.2 b b0 bB hfx']
      by_cases h1 : at' false s b = true
      · rw [if_pos h1] at h ⊢
        simp only [Option.bind_some, if_true] at h
        exact ih2 s t bk inn r bk' s' hsl hb hc hr ht h
      · have h1' : at' false s b = false := by simpa using h1
        rw [if_neg h1] at h ⊢
        simp only [Option.bind_some] at h
        rw [if_neg hfx, at_idx (-1) b0 (by omega)] at h
        simp only [Option.bind_some] at h
        rw [lupd_ok b0 (by omega)]
        simp only [Option.bind_some]
        rw [at_idx 0 b0 (by omega), at_idx [] b0 (by omega)]
        simp only [Option.bind_some]
        rw [hfx'] at hu hn
        simp only [Bool.false_eq_true, if_false] at hu hn
        rw [hu, hn]
        by_cases h3 : at' (-1) bk b < 0
        · rw [if_pos h3, lupd_ok b0 (by omega)] at h
          simp only [Option.bind_some] at h
          cases h
          have htL : toL (at' (-1) bk b) = [] := by unfold toL; rw [if_pos h3]
          rw [htL]
          simp only [List.length_nil]
          rw [if_pos (by rw [w64_id (by omega) (by omega)]; omega), lapp_ok (by simp)]
          simp only [Option.bind_some, List.nil_append]
          rw [lupd_ok b0 (by omega)]
          simp only [Option.bind_some]
          exact ⟨_, _, rfl, fun _ => hr.set hbk ⟨b0, bB⟩ hfx' hi.1, by simp⟩
        · rw [if_neg h3, lupd_ok b0 (by omega)] at h
          simp only [Option.bind_some] at h
          have htL : toL (at' (-1) bk b) = [at' (-1) bk b] := by unfold toL; rw [if_neg h3]
          rw [htL]
          simp only [List.length_singleton]
          rw [if_neg (by rw [w64_id (by omega) (by omega)]; omega), ref19_place_L1]
          unfold ref19_place_B1
          have hlt : b < s.length := by omega
          have ho := hb.2 _ (at_mem (-1) b0 (by omega : b < (bk.length : Int)))
          have hcl := count_false_lt b0 hlt h1'
          obtain ⟨r1, bk1, s1, e1, l1, m1, w1, f1⟩ := place_ok B homes fixed hh hf m (at' (-1) bk b) (s.set b.toNat true) bk (by omega) ho.2 (by simpa using hsl) hb (by omega)
          rw [e1] at h
          simp only [Option.bind_some] at h
          obtain ⟨inn1, t1, e2, g1, g2⟩ := ih (at' (-1) bk b) _ _ bk inn r1 bk1 s1 (by omega) ho.2 (by simpa using hsl) hb (by omega) hr (ht.set ⟨b0, bB⟩ hsl) e1
          rw [e2]
          simp only [Option.bind_some]
          cases r1 with
          | true =>
            have hw := w1 rfl
            have hr1 := g1 rfl
            have hb1 := hw.ok.1
            have hil1 := hr1.il
            rw [if_pos rfl, at_idx (-1) b0 (by omega)] at h
            simp only [Option.bind_some] at h
            rw [lupd_ok b0 (by omega)] at h
            simp only [Option.bind_some] at h
            cases h
            rw [if_pos rfl, at_idx [] b0 (by omega)]
            simp only [Option.bind_some]
            have hst : at' (-1) bk1 b = at' (-1) bk b := hw.still b b0 bB (.inl (by rw [at_set false b0 hlt b0, if_pos rfl]))
            have hn1 := hr1.n b b0 bB
            rw [hfx', hst, htL] at hn1
            simp only [Bool.false_eq_true, if_false] at hn1
            rw [hn1]
            have hx : lidx [at' (-1) bk b] ((0 : Nat) : Int) = some (at' (-1) bk b) := rfl
            have hy : lupd [at' (-1) bk b] ((0 : Nat) : Int) i = some [i] := rfl
            rw [hx]
            simp only [Option.bind_some]
            rw [hy]
            simp only [Option.bind_some]
            rw [lupd_ok b0 (by omega)]
            simp only [Option.bind_some]
            exact ⟨_, _, rfl, fun _ => hr1.set hb1 ⟨b0, bB⟩ hfx' hi.1, by simp⟩
          | false =>
            rw [if_neg (by simp)] at h
            rw [if_neg (by simp), ref19_place_L1]
            obtain ⟨rfl, hlost⟩ := f1 rfl
            obtain ⟨rfl, ht1⟩ := g2 rfl
            have hcle := count_le_of (s := s.set b.toNat true) (t := s1) (by rw [List.length_set]; omega) (fun c c0 cl h => m1 c c0 (by simp at cl; omega) h)
            exact ih2 s1 t1 bk1 inn1 r bk' s' l1 hb (by omega) hr ht1 h
theorem sim_ok (B : Int) (homes : List (List Int)) (fixed : List Bool) (used : List Int) (hh : HomesOK B homes) (hf : (fixed.length : Int) = B) : ∀ (m : Nat) (i : Int) (s t : List Bool) (bk : Bk) (inn : List (List Int)) (r : Bool) (bk' : Bk) (s' : List Bool), 0 ≤ i → i < homes.length → (s.length : Int) = B → BkOK B homes bk → s.count false < m → Rel B fixed used bk inn → SeenR B fixed s t → cuckoo_placing_place_R m (homes, bk, fixed) i s = some (r, bk', s') →
      RefP B fixed used inn r bk' s' (ref19_place_R m homes inn used 1 i t)
  | 0, i, s, t, bk, inn, r, bk', s', _, _, _, _, h, _, _, _ => by omega
  | m + 1, i, s, t, bk, inn, r, bk', s', h0, h1, hs, hb, hc, hr, ht, h => by
    rw [cuckoo_placing_place_R] at h
    unfold cuckoo_placing_place_B2 at h
    rw [at_idx [] h0 h1] at h
    simp only [Option.bind_some] at h
    rw [ref19_place_R]
    unfold ref19_place_B3
    rw [at_idx [] h0 h1]
    simp only [Option.bind_some]
    exact sim_loop B homes fixed used hh hf i ⟨h0, h1⟩ m (sim_ok B homes fixed used hh hf m) _ s t bk inn r bk' s' (fun _ h => h) hs hb hc hr ht h
end Go.Proofs.Ytmfppphlhgneeaa
namespace Go.Proofs.Ytmfppphlhgneeaa
set_option linter.unusedVariables false
def UsedOf (B : Int) (fixed : List Bool) (used : List Int) : Prop := (used.length : Int) = B ∧ (fixed.length : Int) = B ∧ ∀ b, 0 ≤ b → b < B → at' 0 used b = if at' false fixed b = true then 1 else 0
theorem at_rep {α : Type} (d x : α) {n : Nat} {b : Int} (h0 : 0 ≤ b) (h1 : b < n) : at' d (List.replicate n x) b = x := by
  unfold at'; rw [List.getD_eq_getElem?_getD, List.getElem?_replicate, if_pos (by omega)]; rfl
theorem poss_L {B : Int} {homes : List (List Int)} {fixed : List Bool} {used : List Int} (hh : HomesOK B homes) (hB : 0 ≤ B ∧ B ≤ 1000) (hf : (fixed.length : Int) = B) :
    ∀ (hs : List (List Int)) (n : Nat) (bk : Bk) (inn : List (List Int)), homes.drop n = hs → n ≤ homes.length → Stand B homes fixed 0 n bk → Rel B fixed used bk inn →
      ∃ r, ref19_Possible_L1 homes B 1 used hs n inn = some r ∧ (r = true ↔ Placeable homes fixed 0)
  | [], n, bk, inn, hd, hle, hs, hr => by
    have : homes.length ≤ n := List.drop_eq_nil_iff.1 hd
    have e : n = homes.length := by omega
    subst e
    exact ⟨true, rfl, by simp [hs.places (Int.le_refl _)]⟩
  | x :: hs', n, bk, inn, hd, hle, hs, hr => by
    have hlt : n < homes.length := by
      rcases Nat.lt_or_ge n homes.length with h | h
      · exact h
      · rw [List.drop_eq_nil_of_le h] at hd; cases hd
    have hd' : homes.drop (n + 1) = hs' := by rw [← List.drop_drop, hd]; rfl
    rw [ref19_Possible_L1]
    unfold ref19_Possible_B1
    have hmk : lmk B false = some (List.replicate B.toNat false) := by unfold lmk; rw [if_pos (by omega)]
    rw [hmk]
    simp only [Option.bind_some]
    have hsl : ((List.replicate B.toNat false).length : Int) = B := by simp; omega
    have h0 : ∀ b, 0 ≤ b → b < B → at' false (List.replicate B.toNat false) b = false := fun b b0 bB => at_rep false false b0 (by omega)
    have hcnt : (List.replicate B.toNat false).count false < big := by
      have := List.count_le_length (a := false) (l := List.replicate B.toNat false)
      rw [List.length_replicate] at this
      simp only [big]; omega
    obtain ⟨r1, bk1, s1, e1, l1, m1, w1, f1⟩ := place_ok B homes fixed hh hf big n (List.replicate B.toNat false) bk (by omega) (by omega) hsl hs.ok hcnt
    obtain ⟨inn1, t1, e2, g1, g2⟩ := sim_ok B homes fixed used hh hf big n _ (List.replicate B.toNat false) bk inn r1 bk1 s1 (by omega) (by omega) hsl hs.ok hcnt hr ⟨hsl, fun _ _ _ _ => rfl⟩ e1
    unfold ref19_place
    rw [e2]
    simp only [Option.bind_some]
    cases r1 with
    | true =>
      rw [if_pos rfl]
      exact poss_L hh hB hf hs' (n + 1) bk1 inn1 hd' (by omega) (by exact_mod_cast hs.won ⟨Int.le_refl _, by omega⟩ (w1 rfl)) (g1 rfl)
    | false =>
      rw [if_neg (by simp)]
      exact ⟨false, rfl, by simp [no_way hh hs ⟨Int.le_refl _, by omega⟩ (by omega) h0 (f1 rfl).2]⟩
theorem poss_ok {B : Int} {homes : List (List Int)} {fixed : List Bool} {used : List Int} (hh : HomesOK B homes) (hB : 0 ≤ B ∧ B ≤ 1000) (hu : UsedOf B fixed used) : ∃ r, ref19_Possible homes B 1 used = some r ∧ (r = true ↔ Placeable homes fixed 0) := by
  unfold ref19_Possible
  have hmk : lmk B ([] : List Int) = some (List.replicate B.toNat []) := by unfold lmk; rw [if_pos (by omega)]
  rw [hmk]
  simp only [Option.bind_some]
  have hall : ∀ b, 0 ≤ b → b < B → at' (-1) (List.replicate B.toNat (-1 : Int)) b = -1 := fun b b0 bB => at_rep _ _ b0 (by omega)
  refine poss_L hh hB hu.2.1 homes 0 (List.replicate B.toNat (-1)) _ rfl (Nat.zero_le _) ⟨⟨by simp; omega, fun v hv => ?_⟩, fun j hj => ?_, fun j h1 h2 => by omega, fun j hj => ?_, fun b b0 bB _ h => ?_, fun b b0 bB _ => ?_⟩ ⟨hu.1, by simp; omega, hu.2.2, fun b b0 bB => ?_⟩
  · rw [(List.mem_replicate.1 hv).2]; omega
  · rw [List.count_replicate, if_neg (by simp; omega)]; omega
  · rw [List.count_replicate, if_neg (by simp; omega)]
  · rw [hall b b0 bB] at h; omega
  · rw [hall b b0 bB]; omega
  · rw [at_rep _ _ b0 (by omega), hall b b0 bB]; simp [toL]
theorem placeable_drop {homes : List (List Int)} {fixed : List Bool} {a : Nat} (ha : a ≤ homes.length) : Placeable (homes.drop a) fixed 0 ↔ Placeable homes fixed a := by
  have hat : ∀ j : Int, 0 ≤ j → at' [] (homes.drop a) j = at' [] homes (j + a) := fun j hj => by
    unfold at'
    rw [List.getD_eq_getElem?_getD, List.getD_eq_getElem?_getD, List.getElem?_drop]
    congr 2; omega
  have hlen : ((homes.drop a).length : Int) = homes.length - a := by simp; omega
  constructor
  · rintro ⟨f, h1, h2⟩
    refine ⟨fun j => f (j - a), fun j hj hn => ?_, fun j k hj hn hk hkn e => ?_⟩
    · have := h1 (j - a) (by omega) (by omega)
      rw [hat _ (by omega), show j - a + a = j from by omega] at this
      exact this
    · have := h2 (j - a) (k - a) (by omega) (by omega) (by omega) (by omega) e
      omega
  · rintro ⟨f, h1, h2⟩
    refine ⟨fun j => f (j + a), fun j hj hn => ?_, fun j k hj hn hk hkn e => ?_⟩
    · rw [hat _ hj]; exact h1 (j + a) (by omega) (by omega)
    · have := h2 (j + a) (k + a) (by omega) (by omega) (by omega) (by omega) e
      omega
def GreedyL (homes : List (List Int)) : Int → List (List Int) → List Bool → List Int → Prop
  | _, [], _, bs => bs = []
  | i, h :: hs, fixed, bs => ∃ pre b post bs', bs = b :: bs' ∧ h = pre ++ b :: post ∧ at' false fixed b = false ∧ (∀ c ∈ pre, at' false fixed c = true ∨ ¬ Placeable homes (fixed.set c.toNat true) (i + 1)) ∧
    Placeable homes (fixed.set b.toNat true) (i + 1) ∧ GreedyL homes (i + 1) hs (fixed.set b.toNat true) bs'
theorem UsedOf.take {B : Int} {fixed : List Bool} {used : List Int} (h : UsedOf B fixed used) {b : Int} (hb : 0 ≤ b ∧ b < B) : UsedOf B (fixed.set b.toNat true) (used.set b.toNat 1) :=
  ⟨by simpa using h.1, by simpa using h.2.1, fun c c0 cB => by
    rw [at_set 0 hb.1 (by rw [h.1]; exact hb.2) c0, at_set false hb.1 (by rw [h.2.1]; exact hb.2) c0]
    by_cases e : c = b
    · rw [if_pos e, if_pos e]; rfl
    · rw [if_neg e, if_neg e]; exact h.2.2 c c0 cB⟩
theorem rfirst_L1 {B : Int} {homes : List (List Int)} (hh : HomesOK B homes) (hB : 0 ≤ B ∧ B ≤ 1000) (hn : (homes.length : Int) ≤ 100000) (i : Nat) (hi : i < homes.length) (rec : List Int → List Int → Option (List Int × Bool)) {fixed : List Bool} {used : List Int} (hu : UsedOf B fixed used) (out : List Int) (ho : out.length ≤ 100000) :
    ∀ hs : List Int, (∀ b ∈ hs, 0 ≤ b ∧ b < B) → (∃ b ∈ hs, at' false fixed b = false ∧ Placeable homes (fixed.set b.toNat true) (i + 1)) →
      ∃ pre b post, hs = pre ++ b :: post ∧ at' false fixed b = false ∧ (∀ c ∈ pre, at' false fixed c = true ∨ ¬ Placeable homes (fixed.set c.toNat true) (i + 1)) ∧ Placeable homes (fixed.set b.toNat true) (i + 1) ∧
        ref19_First_L1 rec i homes B 1 out hs used = rec (out ++ [b]) (used.set b.toNat 1)
  | [], _, h => by obtain ⟨b, hb, _⟩ := h; cases hb
  | b :: hs, hr, hex => by
    obtain ⟨b0, bB⟩ := hr b List.mem_cons_self
    have hul := hu.1
    have hub := hu.2.2 b b0 bB
    have hbl : b < (used.length : Int) := by omega
    have hskip : (at' false fixed b = true ∨ ¬ Placeable homes (fixed.set b.toNat true) (i + 1)) → ref19_First_L1 rec i homes B 1 out (b :: hs) used = ref19_First_L1 rec i homes B 1 out hs used →
        ∃ pre b' post, b :: hs = pre ++ b' :: post ∧ at' false fixed b' = false ∧ (∀ c ∈ pre, at' false fixed c = true ∨ ¬ Placeable homes (fixed.set c.toNat true) (i + 1)) ∧ Placeable homes (fixed.set b'.toNat true) (i + 1) ∧
        ref19_First_L1 rec i homes B 1 out (b :: hs) used = rec (out ++ [b']) (used.set b'.toNat 1) := fun hno e => by
      obtain ⟨pre, b', post, h1, h2, h3, h4, h5⟩ := rfirst_L1 hh hB hn i hi rec hu out ho hs (fun c hc => hr c (List.mem_cons_of_mem _ hc)) (by
        obtain ⟨c, hc, h1, h2⟩ := hex
        rcases List.mem_cons.1 hc with rfl | hc
        · rcases hno with h | h
          · rw [h] at h1; cases h1
          · exact absurd h2 h
        · exact ⟨c, hc, h1, h2⟩)
      exact ⟨b :: pre, b', post, by rw [h1]; rfl, h2, fun c hc => by rcases List.mem_cons.1 hc with rfl | hc; exact hno; exact h3 c hc, h4, by rw [e]; exact h5⟩
    by_cases hf : at' false fixed b = true
    · refine hskip (.inl hf) ?_
      rw [ref19_First_L1]
      unfold ref19_First_B1
      rw [at_idx 0 b0 hbl, hub, if_pos hf]
      simp only [Option.bind_some, if_true]
    · have hf' : at' false fixed b = false := by simpa using hf
      rw [if_neg hf] at hub
      have hsub : lsub homes (w64 ((i : Int) + 1)) (homes.length : Int) = some (homes.drop (i + 1)) := by
        rw [w64_id (by omega) (by omega), lsub_ok (by omega) (by omega) (by omega)]
        congr 1
        rw [show ((i : Int) + 1).toNat = i + 1 from by omega, show ((homes.length : Int) - ((i : Int) + 1)).toNat = homes.length - (i + 1) from by omega]
        exact List.take_of_length_le (by simp)
      have hhd : HomesOK B (homes.drop (i + 1)) := fun l hl => hh l (List.mem_of_mem_drop hl)
      obtain ⟨r, e, hr2⟩ := poss_ok hhd hB (hu.take ⟨b0, bB⟩)
      rw [placeable_drop (by omega)] at hr2
      have heq : ref19_First_L1 rec i homes B 1 out (b :: hs) used = if r = true then rec (out ++ [b]) (used.set b.toNat 1) else ref19_First_L1 rec i homes B 1 out hs used := by
        rw [ref19_First_L1]
        unfold ref19_First_B1
        rw [at_idx 0 b0 hbl, hub]
        simp only [Option.bind_some]
        rw [if_neg (by omega), show w64 (0 + 1) = 1 from by rw [w64_id (by omega) (by omega)]; rfl, lupd_ok b0 hbl]
        simp only [Option.bind_some]
        rw [hsub]
        simp only [Option.bind_some]
        rw [e]
        simp only [Option.bind_some]
        rw [lapp_ok (by simp; omega), at_idx 0 b0 (by simpa using hbl), at_set 0 b0 hbl b0, if_pos rfl]
        simp only [Option.bind_some]
        rw [show w64 (1 - 1) = 0 from by rw [w64_id (by omega) (by omega)]; rfl, lupd_ok b0 (by simpa using hbl)]
        simp only [Option.bind_some, List.set_set]
        rw [set_at 0 b0 hbl hub]
      cases r with
      | true => rw [if_pos rfl] at heq; exact ⟨[], b, hs, rfl, hf', by simp, by exact_mod_cast hr2.1 rfl, heq⟩
      | false => rw [if_neg (by simp)] at heq; exact hskip (.inr fun hp => by have := hr2.2 (by exact_mod_cast hp); cases this) heq
theorem rfirst_L2 {B : Int} {homes : List (List Int)} (hh : HomesOK B homes) (hB : 0 ≤ B ∧ B ≤ 1000) (hn : (homes.length : Int) ≤ 100000) : ∀ (hs : List (List Int)) (n : Nat) (fixed : List Bool) (used out : List Int), homes.drop n = hs → UsedOf B fixed used → out.length = n → n ≤ homes.length → Placeable homes fixed n →
    ∃ bs, ref19_First_L2 homes B 1 hs n out used = some (out ++ bs, true) ∧ GreedyL homes n hs fixed bs
  | [], n, fixed, used, out, hd, hu, hl, hle, hp => ⟨[], by simp [ref19_First_L2], rfl⟩
  | l :: hs, n, fixed, used, out, hd, hu, hl, hle, hp => by
    have hlt : n < homes.length := by
      rcases Nat.lt_or_ge n homes.length with h | h
      · exact h
      · rw [List.drop_eq_nil_of_le h] at hd; cases hd
    have hd' : homes.drop (n + 1) = hs := by rw [← List.drop_drop, hd]; rfl
    have hat : at' [] homes (n : Int) = l := by
      unfold at'
      rw [Int.toNat_natCast, List.getD_eq_getElem?_getD, List.getElem?_eq_getElem hlt]
      rw [List.drop_eq_getElem_cons hlt] at hd
      exact (List.cons.inj hd).1
    have hi : 0 ≤ (n : Int) ∧ (n : Int) < homes.length := ⟨by omega, by omega⟩
    have hlr : ∀ b ∈ l, 0 ≤ b ∧ b < B := hat ▸ hh _ (at_mem [] hi.1 hi.2)
    have hst := (Placeable.step hh hu.2.1 hi).1 hp
    rw [hat] at hst
    obtain ⟨pre, b, post, h1, h2, h3, h4, h5⟩ := rfirst_L1 hh hB hn n hlt (ref19_First_L2 homes B 1 hs (n + 1)) hu out (by omega) l hlr hst
    obtain ⟨b0, bB⟩ := hlr b (by rw [h1]; simp)
    obtain ⟨bs, e, hg⟩ := rfirst_L2 hh hB hn hs (n + 1) (fixed.set b.toNat true) (used.set b.toNat 1) (out ++ [b]) hd' (hu.take ⟨b0, bB⟩) (by simp [hl]) (by omega) (by exact_mod_cast h4)
    refine ⟨b :: bs, ?_, pre, b, post, bs, rfl, h1, h2, h3, h4, by exact_mod_cast hg⟩
    rw [ref19_First_L2]
    unfold ref19_First_B2
    rw [h5, e]
    simp
end Go.Proofs.Ytmfppphlhgneeaa
namespace Go.Proofs.Ytmfppphlhgneeaa
set_option linter.unusedVariables false
abbrev Hsh := Int × List (Int × Int)
def PairOK (p : Int × Int) : Prop := 0 ≤ p.1 ∧ p.1 < 2147483647 ∧ 0 ≤ p.2 ∧ p.2 < 2147483647
def HshOK (h : Hsh) : Prop := 1 ≤ h.1 ∧ h.1 ≤ 64 ∧ 1 ≤ h.2.length ∧ h.2.length ≤ 4 ∧ ∀ p ∈ h.2, PairOK p
def ItemOK (n : Int) : Prop := 0 ≤ n ∧ n < 2147483647
def homeL (h : Hsh) (n : Int) : List Int := h.2.map fun p => (p.1 * n + p.2) % 2147483647 % h.1
theorem check_L : ∀ ps : List (Int × Int), (cuckoo_Check_L1 ps = some 0 ∧ ∀ p ∈ ps, PairOK p) ∨ (cuckoo_Check_L1 ps = some 2 ∧ ¬ ∀ p ∈ ps, PairOK p)
  | [] => .inl ⟨rfl, by simp⟩
  | p :: ps => by
    rw [cuckoo_Check_L1]
    unfold cuckoo_Check_B1
    split
    · rename_i h
      refine .inr ⟨rfl, fun ha => ?_⟩
      have := ha p List.mem_cons_self
      unfold PairOK at this; omega
    · rename_i h
      have hp : PairOK p := by unfold PairOK; omega
      rcases check_L ps with ⟨e, h1⟩ | ⟨e, h1⟩
      · exact .inl ⟨e, fun q hq => by rcases List.mem_cons.1 hq with rfl | hq; exact hp; exact h1 q hq⟩
      · exact .inr ⟨e, fun ha => h1 fun q hq => ha q (List.mem_cons_of_mem _ hq)⟩
theorem check_ok (h : Hsh) : (cuckoo_Check h = some 0 ∧ HshOK h) ∨ (cuckoo_Check h = some 2 ∧ ¬ HshOK h) := by
  unfold cuckoo_Check
  split
  · rename_i hh
    refine .inr ⟨rfl, fun ha => ?_⟩
    unfold HshOK at ha; omega
  · rename_i hh
    rcases check_L h.2 with ⟨e, h1⟩ | ⟨e, h1⟩
    · exact .inl ⟨e, by omega, by omega, by omega, by omega, h1⟩
    · exact .inr ⟨e, fun ha => h1 ha.2.2.2.2⟩
theorem rcheck_L : ∀ ps, ref19_Check_L1 ps = cuckoo_Check_L1 ps
  | [] => rfl
  | p :: ps => by rw [ref19_Check_L1, cuckoo_Check_L1, rcheck_L ps]; rfl
theorem rcheck (h : Hsh) : ref19_Check h = cuckoo_Check h := by
  unfold ref19_Check cuckoo_Check; rw [rcheck_L]
theorem home_at {a b n B : Int} (ha : PairOK (a, b)) (hn : ItemOK n) (hB : 1 ≤ B) : Int.tmod (Int.tmod (w64 ((w64 (a * n)) + b)) 2147483647) B = (a * n + b) % 2147483647 % B := by
  unfold PairOK at ha; unfold ItemOK at hn
  dsimp only at ha
  have h1 : 0 ≤ a * n := Int.mul_nonneg ha.1 hn.1
  have h2 : a * n ≤ 2147483647 * 2147483647 := Int.mul_le_mul (by omega) (by omega) hn.1 (by omega)
  have e1 : (a * n + b).tmod 2147483647 = (a * n + b) % 2147483647 := Int.tmod_eq_emod_of_nonneg (by omega)
  rw [w64_id (x := a * n) (by omega) (by omega), w64_id (by omega) (by omega), e1, Int.tmod_eq_emod_of_nonneg (Int.emod_nonneg _ (by omega))]
theorem homes_L {B n : Int} (hB : 1 ≤ B) (hn : ItemOK n) : ∀ (ps : List (Int × Int)) (acc : List Int), (∀ p ∈ ps, PairOK p) → acc.length + ps.length ≤ 100 → cuckoo_homes_L1 n B ps acc = some (acc ++ ps.map fun p => (p.1 * n + p.2) % 2147483647 % B)
  | [], acc, _, _ => by simp [cuckoo_homes_L1]
  | p :: ps, acc, hp, hl => by
    rw [cuckoo_homes_L1]
    unfold cuckoo_homes_B1
    simp only [List.length_cons] at hl
    rw [nz_ok (by omega), lapp_ok (by simp; omega)]
    simp only [Option.bind_some]
    rw [homes_L hB hn ps _ (fun q hq => hp q (List.mem_cons_of_mem _ hq)) (by simp; omega), home_at (hp p List.mem_cons_self) hn hB]
    simp
theorem homes_ok {h : Hsh} (hk : HshOK h) {n : Int} (hn : ItemOK n) : cuckoo_homes h n = some (homeL h n) := by
  unfold cuckoo_homes
  have h4 := hk.2.2.2.1
  rw [homes_L hk.1 hn h.2 [] hk.2.2.2.2 (by simp; omega)]
  rfl
theorem rhomes_L {B n : Int} (hB : 1 ≤ B) (hn : ItemOK n) : ∀ (ps : List (Int × Int)) (acc : List Int), (∀ p ∈ ps, PairOK p) → acc.length + ps.length ≤ 100 → ref19_Homes_L1 n B ps acc = some (acc ++ ps.map (fun p => (p.1 * n + p.2) % 2147483647 % B), 0)
  | [], acc, _, _ => by simp [ref19_Homes_L1]
  | p :: ps, acc, hp, hl => by
    rw [ref19_Homes_L1]
    unfold ref19_Homes_B1
    simp only [List.length_cons] at hl
    rw [nz_ok (by omega), lapp_ok (by simp; omega)]
    simp only [Option.bind_some]
    rw [rhomes_L hB hn ps _ (fun q hq => hp q (List.mem_cons_of_mem _ hq)) (by simp; omega), home_at (hp p List.mem_cons_self) hn hB]
    simp
theorem rhomes_ok {h : Hsh} (hk : HshOK h) {n : Int} (hn : ItemOK n) : ref19_Homes h n = some (homeL h n, 0) := by
  unfold ref19_Homes
  rcases check_ok h with ⟨e, _⟩ | ⟨_, e⟩
  · rw [rcheck, e]
    simp only [Option.bind_some]
    have h4 := hk.2.2.2.1
    have := hn.1; have := hn.2
    rw [if_neg (by simp), if_neg (by omega), rhomes_L hk.1 hn h.2 [] hk.2.2.2.2 (by simp; omega)]
    rfl
  · exact absurd hk e
theorem homeL_range {h : Hsh} (hk : HshOK h) (n : Int) : ∀ b ∈ homeL h n, 0 ≤ b ∧ b < h.1 := fun b hb => by
  obtain ⟨p, _, rfl⟩ := List.mem_map.1 hb
  have := hk.1
  exact ⟨Int.emod_nonneg _ (by omega), Int.emod_lt_of_pos _ (by omega)⟩
end Go.Proofs.Ytmfppphlhgneeaa
namespace Go.Proofs.Ytmfppphlhgneeaa
set_option linter.unusedVariables false
end Go.Proofs.Ytmfppphlhgneeaa
namespace Go.Proofs.Ytmfppphlhgneeaa
set_option maxRecDepth 100000
end Go.Proofs.Ytmfppphlhgneeaa
namespace Go.Proofs.Ytmfppphlhgneeaa
set_option linter.unusedVariables false
end Go.Proofs.Ytmfppphlhgneeaa
namespace Go.Proofs.Ytmfppphlhgneeaa
set_option linter.unusedVariables false
def PlacesL (ls : List (List Int)) (fixed : List Bool) : Prop := ∃ ps : List (Int × List Int), ps.map (·.2) = ls ∧ (∀ p ∈ ps, p.1 ∈ p.2 ∧ at' false fixed p.1 = false) ∧ (ps.map (·.1)).Nodup
theorem perm_lift {α β : Type} (f : α → β) {l m : List β} (h : l.Perm m) : ∀ ps : List α, ps.map f = l → ∃ qs : List α, qs.Perm ps ∧ qs.map f = m := by
  induction h with
  | nil => intro ps hp; exact ⟨ps, List.Perm.refl _, hp⟩
  | cons x _ ih =>
    intro ps hp
    cases ps with
    | nil => simp at hp
    | cons p ps =>
      simp only [List.map_cons, List.cons.injEq] at hp
      obtain ⟨qs, h1, h2⟩ := ih ps hp.2
      exact ⟨p :: qs, h1.cons p, by simp [hp.1, h2]⟩
  | swap x y l =>
    intro ps hp
    cases ps with
    | nil => simp at hp
    | cons p ps =>
      cases ps with
      | nil => simp at hp
      | cons q ps =>
        simp only [List.map_cons, List.cons.injEq] at hp
        exact ⟨q :: p :: ps, List.Perm.swap p q ps, by simp [hp.1, hp.2.1, hp.2.2]⟩
  | trans _ _ ih1 ih2 =>
    intro ps hp
    obtain ⟨qs, h1, h2⟩ := ih1 ps hp
    obtain ⟨rs, h3, h4⟩ := ih2 qs h2
    exact ⟨rs, h3.trans h1, h4⟩
theorem PlacesL.perm {l m : List (List Int)} {fixed : List Bool} (h : l.Perm m) : PlacesL l fixed → PlacesL m fixed := by
  rintro ⟨ps, h1, h2, h3⟩
  obtain ⟨qs, k1, k2⟩ := perm_lift _ h ps h1
  exact ⟨qs, k2, fun p hp => h2 p (k1.mem_iff.1 hp), (k1.map _).nodup_iff.2 h3⟩
theorem PlacesL.sub {l m : List (List Int)} {fixed : List Bool} (h : m.Sublist l) : PlacesL l fixed → PlacesL m fixed := by
  rintro ⟨ps, h1, h2, h3⟩
  subst h1
  obtain ⟨qs, k1, k2⟩ := List.sublist_map_iff.1 h
  exact ⟨qs, k2.symm, fun p hp => h2 p (k1.subset hp), h3.sublist (k1.map _)⟩
end Go.Proofs.Ytmfppphlhgneeaa
namespace Go.Proofs.Ytmfppphlhgneeaa
set_option linter.unusedVariables false
theorem index_L (x : Int) : ∀ (l : List Int) (i : Nat), ∃ r, slices_Index_Lintint_L1 x l i = some r ∧ (0 ≤ r ↔ x ∈ l)
  | [], i => ⟨-1, rfl, by simp⟩
  | y :: l, i => by
    rw [slices_Index_Lintint_L1]
    unfold slices_Index_Lintint_B1
    by_cases h : x = y
    · rw [if_pos h]; exact ⟨i, rfl, by simp [h]⟩
    · rw [if_neg h]
      obtain ⟨r, e, hr⟩ := index_L x l (i + 1)
      exact ⟨r, e, by rw [hr]; simp [h]⟩
theorem contains_ok (l : List Int) (x : Int) : ∃ r, slices_Contains_Lintint l x = some r ∧ (r = true ↔ x ∈ l) := by
  unfold slices_Contains_Lintint slices_Index_Lintint
  obtain ⟨r, e, hr⟩ := index_L x l 0
  rw [e]
  exact ⟨decide (0 ≤ r), rfl, by simp [hr]⟩
structure Asg (B : Int) (homes : List (List Int)) (bk : Bk) : Prop where
  ok : BkOK B homes bk
  le : ∀ j, 0 ≤ j → bk.count j ≤ 1
  has : ∀ j : Int, 0 ≤ j → j < homes.length → ∃ b, 0 ≤ b ∧ b < B ∧ b ∈ at' [] homes j ∧ at' (-1) bk b = j
theorem Asg.edge {B : Int} {homes : List (List Int)} {bk : Bk} (h : Asg B homes bk) {b : Int} (b0 : 0 ≤ b) (bB : b < B) (hn : 0 ≤ at' (-1) bk b) : b ∈ at' [] homes (at' (-1) bk b) := by
  have hb := h.ok.1
  have hv := h.ok.2 _ (at_mem (-1) (l := bk) b0 (by omega))
  obtain ⟨c, c0, cB, hc, e⟩ := h.has _ hn hv.2
  by_cases hbc : b = c
  · rw [hbc] at e ⊢; rw [e]; rw [hbc] at hc; rw [e] at hc; exact hc
  · have := at_count (l := bk) ⟨b0, by omega⟩ ⟨c0, by omega⟩ rfl e hbc
    have := h.le _ hn
    omega
end Go.Proofs.Ytmfppphlhgneeaa
end

section
namespace Go.Proofs.Ytmfppphlhgneeaa
set_option linter.unusedVariables false
theorem nodup_of_count : ∀ {l : List Int}, (∀ x, l.count x ≤ 1) → l.Nodup
  | [], _ => List.nodup_nil
  | x :: l, h => by
    refine List.nodup_cons.2 ⟨fun hm => ?_, nodup_of_count fun y => ?_⟩
    · have := h x
      rw [List.count_cons_self] at this
      have := List.count_pos_iff.2 hm
      omega
    · have := h y
      rw [List.count_cons] at this
      omega
theorem Asg.used {B : Int} {homes : List (List Int)} {bk : Bk} (h : Asg B homes bk) : (bk.filter fun x => decide (0 ≤ x)).length = homes.length := by
  have hn : (bk.filter fun x => decide (0 ≤ x)).Nodup := nodup_of_count fun x => by
    by_cases hx : 0 ≤ x
    · have h1 := (List.filter_sublist (p := fun x => decide (0 ≤ x)) (l := bk)).count_le x
      have := h.le x hx
      omega
    · have : (bk.filter fun x => decide (0 ≤ x)).count x = 0 := List.count_eq_zero.2 fun hm => by
        have := (List.mem_filter.1 hm).2
        simp at this; omega
      omega
  have hb := h.ok.1
  have h1 := pig hn (m := (List.range homes.length).map fun (i : Nat) => (i : Int)) fun x hx => by
    obtain ⟨h2, h3⟩ := List.mem_filter.1 hx
    have := (h.ok.2 x h2).2
    have h4 : 0 ≤ x := by simpa using h3
    exact List.mem_map.2 ⟨x.toNat, List.mem_range.2 (by omega), by omega⟩
  have h2 := pig (l := (List.range homes.length).map fun (i : Nat) => (i : Int)) (m := bk.filter fun x => decide (0 ≤ x)) (nodup_map List.nodup_range fun x _ y _ e => by omega) fun x hx => by
    obtain ⟨i, hi, rfl⟩ := List.mem_map.1 hx
    obtain ⟨b, b0, bB, _, e⟩ := h.has i (by omega) (by have := List.mem_range.1 hi; omega)
    refine List.mem_filter.2 ⟨?_, by simp⟩
    rw [← e]; exact at_mem (-1) b0 (by omega)
  simp at h1 h2
  omega
end Go.Proofs.Ytmfppphlhgneeaa
end

section
namespace Go.Proofs.Ytmfppphlhgneeaa
set_option linter.unusedVariables false
theorem homes_ok' {h : Hsh} (hk : HshOK h) {n : Int} (hn : ItemOK n) : cuckoo_Homes h n = some (homeL h n, 0) := by
  unfold cuckoo_Homes
  rcases check_ok h with ⟨e, _⟩ | ⟨_, hc⟩
  · rw [e]
    simp only [Option.bind_some]
    have hi : cuckoo_item n = some true := by unfold cuckoo_item ItemOK at *; simp [hn]
    rw [if_neg (by simp), hi]
    simp only [Option.bind_some]
    rw [if_neg (by simp), homes_ok hk hn]; rfl
  · exact absurd hk hc
end Go.Proofs.Ytmfppphlhgneeaa
end

section
namespace Go.Proofs.Ytmfppphlhgneeaa
set_option linter.unusedVariables false
set_option maxRecDepth 100000
theorem sidx_ok {s : ByteArray} {i : Int} (h0 : 0 ≤ i) (h1 : i < s.size) : ∃ c, sidx s i = some c ∧ 0 ≤ c ∧ c ≤ 255 := by
  unfold sidx
  rw [if_pos ⟨h0, h1⟩]
  have := (s.data.toList.getD i.toNat 0).toNat_lt
  exact ⟨_, rfl, by omega, by omega⟩
theorem sum_L (w : ByteArray) (hw : w.size ≤ 100000) : ∀ (m fuel : Nat) (v : Int) (i : Nat), i + m = w.size → m < fuel → ItemOK v →
    ∃ s, digest_sum_string_L1 w (w.size : Int) fuel v (i : Int) = some s ∧ ref11_Sum_L1 w fuel v (i : Int) = some s ∧ ItemOK s
  | m, 0, _, _, _, h, _ => by omega
  | 0, fuel + 1, v, i, h1, h2, hv => by
    rw [digest_sum_string_L1, ref11_Sum_L1]
    unfold digest_sum_string_B1 ref11_Sum_B1
    rw [if_neg (by omega), if_neg (by omega)]
    exact ⟨v, rfl, rfl, hv⟩
  | m + 1, fuel + 1, v, i, h1, h2, hv => by
    rw [digest_sum_string_L1, ref11_Sum_L1]
    unfold digest_sum_string_B1 ref11_Sum_B1
    obtain ⟨c, e, c0, c1⟩ := sidx_ok (s := w) (i := (i : Int)) (by omega) (by omega)
    unfold ItemOK at hv
    rw [if_pos (by omega), if_pos (by omega), e, Option.bind_some, Option.bind_some, w64_id (x := c) (by omega) (by omega), w64_id (x := v * 1000003) (by omega) (by omega), w64_id (x := v * 1000003 + c) (by omega) (by omega), w64_id (x := v * 1000003 + c + 1) (by omega) (by omega), w64_id (x := (i : Int) + 1) (by omega) (by omega)]
    exact sum_L w hw m fuel _ (i + 1) (by omega) (by omega) ⟨Int.tmod_nonneg _ (by omega), Int.tmod_lt_of_pos _ (by omega)⟩
def sumI (w : ByteArray) : Int := (ref11_Sum w).getD 0
theorem sum_ok {w : ByteArray} (hw : w.size ≤ 100000) : digest_Sum w = some (sumI w) ∧ ref11_Sum w = some (sumI w) ∧ ItemOK (sumI w) := by
  obtain ⟨s, h1, h2, h3⟩ := sum_L w hw w.size big 1 0 (by omega) (by simp only [big]; omega) ⟨by omega, by omega⟩
  have e : ref11_Sum w = some s := h2
  have e2 : sumI w = s := by unfold sumI; rw [e]; rfl
  refine ⟨?_, by rw [e, e2], by rw [e2]; exact h3⟩
  unfold digest_Sum digest_sum_string
  rw [show digest_sum_string_L1 w (w.size : Int) big 1 0 = some s from h1, Option.bind_some, e2]
theorem ccheck {h : Hsh} (hk : HshOK h) : cuckoo_Check h = some 0 := by
  rcases check_ok h with h1 | h1
  · exact h1.1
  · exact absurd hk h1.2
theorem kproper_eq (w : ByteArray) : keyword_proper w = some (decide (KeyP w)) := by
  rw [show keyword_proper w = ref20_Key w from rfl, key_eq]
theorem khomes_ok {h : Hsh} (hk : HshOK h) {w : ByteArray} (hw : w.size ≤ 100000) : keyword_homes h w = some (homeL h (sumI w)) := by
  unfold keyword_homes
  obtain ⟨h1, h2, h3⟩ := sum_ok hw
  rw [h1, Option.bind_some, homes_ok' hk h3, Option.bind_some]
theorem r20homes_ok {h : Hsh} (hk : HshOK h) {w : ByteArray} (hw : KeyP w) : ref20_Homes h w = some (homeL h (sumI w), 0) := by
  unfold ref20_Homes
  obtain ⟨h1, h2, h3⟩ := sum_ok (w := w) (by have := hw.2; omega)
  rw [rcheck, ccheck hk, Option.bind_some, if_neg (by decide), key_eq, Option.bind_some, if_neg (nb_t hw), h2, Option.bind_some, rhomes_ok hk h3]
  rfl
abbrev Ent := ByteArray × Int
def EntOK (e : Ent) : Prop := KeyP e.1 ∧ 0 ≤ e.2 ∧ e.2 < 2147483647
def AscE (l : List Ent) : Prop := l.Pairwise fun a b => sLt a.1 b.1
instance (e : Ent) : Decidable (EntOK e) := by unfold EntOK KeyP; infer_instance
macro "so" : tactic => `(tactic| first | omega | (simp; done) | (simp; omega))
theorem rvalid_eq (e : Ent) : ref20_valid e = some (decide (EntOK e)) := by
  unfold ref20_valid
  rw [key_eq, Option.bind_some]
  exact congrArg some (decide_eq_decide.2 (by unfold EntOK; rw [decide_eq_true_eq]; exact ⟨fun h => ⟨h.1.1, h.1.2, h.2⟩, fun h => ⟨⟨h.1, h.2.1⟩, h.2.2⟩⟩))
abbrev BR := ((Int × (List (Int × Int))) × Int × (List (List (ByteArray × Int)))) × Int
theorem twice_L (kx : ByteArray → Int → Int → Int → Int → Option BR) (w : ByteArray) (a b c d : Int) : ∀ xs : List Ent, (∀ x ∈ xs, x.1 ≠ w) → ref20_Build_L10 kx w a b c d xs = kx w a b c d
  | [], _ => rfl
  | x :: xs, h => by
    show ref20_Build_B10 kx w a b c d (ref20_Build_L10 kx w a b c d xs) x = _
    unfold ref20_Build_B10
    rw [if_neg (h x List.mem_cons_self)]
    exact twice_L kx w a b c d xs fun y hy => h y (List.mem_cons_of_mem _ hy)
theorem ins_L (rec : List Ent → Int → Int → Int → Option BR) (s : List Ent) (e : Ent) (a b c : Int) (hs : s.length ≤ 1000) (h : ∀ x ∈ s, sLt x.1 e.1) : ref20_Build_J9 rec s e.1 e.2 a b c = rec (s ++ [e]) a b c := by
  unfold ref20_Build_J9
  rw [show big = (big - 1) + 1 from by simp only [big], ref20_Build_L8]
  unfold ref20_Build_B8
  have hg : (if 0 < (s.length : Int) then ((lidx s (w64 ((s.length : Int) - 1))).bind fun u => some (decide (sLt e.1 u.1))) else some false) = some false := by
    by_cases c : 0 < (s.length : Int)
    · rw [if_pos c, w64_id (by omega) (by omega), lidx_ok (ByteArray.empty, 0) (by omega) (by omega), Option.bind_some]
      refine congrArg some (decide_eq_false fun h2 => sLt_asymm h2 (h _ ?_))
      rw [List.getD_eq_getElem?_getD, List.getElem?_eq_getElem (by omega)]
      exact List.getElem_mem _
    · rw [if_neg c]
  rw [hg, Option.bind_some, if_neg (by decide)]
  unfold ref20_Build_J7
  rw [lapp_ok (by so), Option.bind_some, w64_id (by omega) (by omega)]
  unfold psub
  rw [if_pos (by so), Option.bind_some, if_pos (by so), Option.bind_some]
  dsimp only
  rw [lsub_ok (by omega) (by so) (by so), Option.bind_some, lsub_ok (by omega) (by so) (by so), Option.bind_some]
  have e0 : ((((s ++ [(ByteArray.empty, (0 : Int))]).drop (0 + ((s.length : Int) + 1)).toNat).take (0 + (((s ++ [(ByteArray.empty, (0 : Int))]).length : Int) - 0) - (0 + ((s.length : Int) + 1))).toNat)).length = 0 := by so
  rw [e0]
  have e1 : ∀ src : List Ent, lcpy (s ++ [(ByteArray.empty, (0 : Int))]) (0 + ((s.length : Int) + 1)) 0 src = s ++ [(ByteArray.empty, 0)] := fun src => by
    unfold lcpy
    rw [List.take_of_length_le (by so), List.drop_of_length_le (by so)]
    simp
  rw [e1, lidx_ok (ByteArray.empty, 0) (by omega) (by so), Option.bind_some, lupd_ok (by omega) (by so), Option.bind_some, Int.toNat_natCast, List.set_append_right _ _ (by omega), Nat.sub_self]
  rfl
theorem sort_L (kx : List Ent → Int → Int → Int → Option BR) (a b c : Int) (l : List Ent) (hl : l.length ≤ 1000) (hv : ∀ e ∈ l, EntOK e) (ha : AscE l) : ∀ (xs s : List Ent), s ++ xs = l →
    ref20_Build_L11 kx l xs s.length s a b c = kx l a b c
  | [], s, h => by rw [List.append_nil] at h; subst h; rfl
  | e :: xs, s, h => by
    show ref20_Build_B11 kx l (ref20_Build_L11 kx l xs (s.length + 1)) e s.length s a b c = _
    unfold ref20_Build_B11
    have hm : e ∈ l := by rw [← h]; simp
    rw [rvalid_eq, Option.bind_some, if_neg (nb_t (hv e hm)), lsub_ok (by omega) (by omega) (by rw [← h]; so), Option.bind_some, show ((l.drop (0 : Int).toNat).take (((s.length : Nat) : Int) - 0).toNat) = s from by rw [← h]; simp]
    have hlt : ∀ x ∈ s, sLt x.1 e.1 := by
      unfold AscE at ha
      rw [← h, List.pairwise_append] at ha
      exact fun x hx => ha.2.2 x hx e List.mem_cons_self
    have hsl : s.length ≤ 1000 := by have := congrArg List.length h; simp at this; omega
    rw [twice_L _ _ _ _ _ _ s (fun x hx he => sLt_irr x.1 (by have := hlt x hx; rw [← he] at this; exact this)), ins_L _ s e a b c hsl hlt]
    have := sort_L kx a b c l hl hv ha xs (s ++ [e]) (by rw [List.append_assoc]; exact h)
    rw [List.length_append] at this
    exact this
theorem homes_L5 {h : Hsh} (hk : HshOK h) (kx : List (List Int) → Int → Int → Int → Option BR) (a b : Int) : ∀ (xs : List Ent) (acc : List (List Int)), acc.length + xs.length ≤ 1000 → (∀ e ∈ xs, EntOK e) →
    ref20_Build_L5 kx a b h.1 h.2 xs acc = kx (acc ++ xs.map fun e => homeL h (sumI e.1)) a b h.1
  | [], acc, _, _ => by simp [ref20_Build_L5]
  | x :: xs, acc, hl, hv => by
    show ref20_Build_B5 kx a b h.1 h.2 (ref20_Build_L5 kx a b h.1 h.2 xs) x acc = _
    unfold ref20_Build_B5
    simp only [List.length_cons] at hl
    rw [show ((h.1, h.2) : Hsh) = h from rfl, r20homes_ok hk (hv x List.mem_cons_self).1, Option.bind_some, lapp_ok (by simp; omega), Option.bind_some, homes_L5 hk kx a b xs _ (by simp; omega) (fun e he => hv e (List.mem_cons_of_mem _ he))]
    simp
def Held (B : Int) (l : List Ent) (bs : List Int) (n : Nat) (E : List (List Ent)) : Prop :=
  (E.length : Int) = B ∧ ∀ b : Nat, (b : Int) < B → (∃ k, k < n ∧ bs.getD k 0 = b ∧ E.getD b [] = [l.getD k (ByteArray.empty, 0)]) ∨ ((∀ k, k < n → bs.getD k 0 ≠ b) ∧ E.getD b [] = [])
theorem place_L {h : Hsh} (hk : HshOK h) (kx : Int → Int → List (List Ent) → Int → Int → Int → Option BR) (l : List Ent) (a b c d e : Int) {bs : List Int} (hb : bs.length = l.length) (hl : l.length ≤ 1000) (hr : ∀ x ∈ bs, 0 ≤ x ∧ x < h.1) (hn : bs.Nodup) : ∀ (xs : List Int) (n : Nat) (E : List (List Ent)), bs.drop n = xs → n ≤ bs.length → Held h.1 l bs n E →
    ∃ E', ref20_Build_L2 kx l a b c d e xs n E = kx a b E' c d e ∧ Held h.1 l bs bs.length E'
  | [], n, E, hd, hle, hE => by
    have : bs.length ≤ n := List.drop_eq_nil_iff.1 hd
    obtain rfl : n = bs.length := by omega
    exact ⟨E, rfl, hE⟩
  | x :: xs, n, E, hd, hle, hE => by
    have hlt : n < bs.length := by
      rcases Nat.lt_or_ge n bs.length with h | h
      · exact h
      · rw [List.drop_eq_nil_of_le h] at hd; cases hd
    have hd' : bs.drop (n + 1) = xs := by rw [← List.drop_drop, hd]; rfl
    have hx : bs.getD n 0 = x := by
      rw [List.drop_eq_getElem_cons hlt] at hd
      rw [List.getD_eq_getElem?_getD, List.getElem?_eq_getElem hlt]
      exact (List.cons.inj hd).1
    have hxm : x ∈ bs := List.mem_of_mem_drop (i := n) (by rw [hd]; exact List.mem_cons_self)
    obtain ⟨x0, x1⟩ := hr x hxm
    have hu : ∀ k, k < n → bs.getD k 0 ≠ x := fun k hk2 he => by
      rw [← hx, List.getD_eq_getElem?_getD, List.getD_eq_getElem?_getD, List.getElem?_eq_getElem (by omega), List.getElem?_eq_getElem hlt] at he
      exact List.pairwise_iff_getElem.1 hn k n (by omega) hlt hk2 he
    have hE0 : E.getD x.toNat [] = [] := by
      rcases hE.2 x.toNat (by omega) with ⟨k, h1, h2, h3⟩ | ⟨h1, h2⟩
      · exact absurd (by omega) (hu k h1)
      · exact h2
    show ∃ E', ref20_Build_B2 kx l a b c d e (ref20_Build_L2 kx l a b c d e xs (n + 1)) x n E = _ ∧ _
    unfold ref20_Build_B2
    have hEl := hE.1
    rw [lidx_nat (ByteArray.empty, 0) (by omega), Option.bind_some, lidx_ok [] x0 (by omega), Option.bind_some, hE0, lapp_ok (by simp), Option.bind_some, Option.bind_some, lupd_ok x0 (by omega), Option.bind_some, List.nil_append]
    refine place_L hk kx l a b c d e hb hl hr hn xs (n + 1) _ hd' (by omega) ⟨by rw [List.length_set]; exact hEl, fun q hq => ?_⟩
    rw [List.getD_eq_getElem?_getD, List.getElem?_set]
    by_cases he : x.toNat = q
    · rw [if_pos he, if_pos (by omega)]
      exact .inl ⟨n, by omega, by omega, rfl⟩
    · rw [if_neg he, ← List.getD_eq_getElem?_getD]
      rcases hE.2 q hq with ⟨k, h1, h2, h3⟩ | ⟨h1, h2⟩
      · exact .inl ⟨k, by omega, h2, h3⟩
      · refine .inr ⟨fun k hk2 => ?_, h2⟩
        by_cases hkn : k = n
        · subst hkn; omega
        · exact h1 k (by omega)
theorem greedy_facts {B : Int} {homes : List (List Int)} : ∀ (hs : List (List Int)) (i : Int) (fixed : List Bool) (bs : List Int), (∀ l ∈ hs, ∀ b ∈ l, 0 ≤ b ∧ b < B) → (fixed.length : Int) = B → GreedyL homes i hs fixed bs →
    bs.length = hs.length ∧ (∀ k, k < bs.length → bs.getD k 0 ∈ hs.getD k []) ∧ bs.Nodup ∧ ∀ b ∈ bs, (0 ≤ b ∧ b < B) ∧ at' false fixed b = false
  | [], i, fixed, bs, _, _, hg => by cases hg; exact ⟨rfl, by simp, by simp, by simp⟩
  | l :: hs, i, fixed, bs, hr, hf, ⟨pre, b, post, bs', e0, e1, f1, n1, p1, g1⟩ => by
    subst e0
    obtain ⟨b0, b1⟩ := hr l List.mem_cons_self b (by rw [e1]; simp)
    obtain ⟨h1, h2, h3, h4⟩ := greedy_facts hs (i + 1) (fixed.set b.toNat true) bs' (fun x hx => hr x (List.mem_cons_of_mem _ hx)) (by rw [List.length_set]; exact hf) g1
    refine ⟨by simp [h1], fun k hk => ?_, List.nodup_cons.2 ⟨fun hm => ?_, h3⟩, fun c hc => ?_⟩
    · cases k with
      | zero => rw [List.getD_cons_zero, List.getD_cons_zero, e1]; simp
      | succ k => rw [List.getD_cons_succ, List.getD_cons_succ]; exact h2 k (by simpa using hk)
    · have := (h4 b hm).2
      rw [at_set false b0 (by omega) b0, if_pos rfl] at this
      cases this
    · rcases List.mem_cons.1 hc with rfl | hc
      · exact ⟨⟨b0, b1⟩, f1⟩
      · obtain ⟨⟨c0, c1⟩, h5⟩ := h4 c hc
        refine ⟨⟨c0, c1⟩, ?_⟩
        rw [at_set false b0 (by omega) c0] at h5
        split at h5
        · cases h5
        · exact h5
theorem first35 {B : Int} {H : List (List Int)} (hh : HomesOK B H) (hB : 1 ≤ B ∧ B ≤ 64) (hn : (H.length : Int) ≤ 1000) :
    (ref19_First H B 1 = some ([], false) ∧ H ≠ []) ∨ ∃ bs, ref19_First H B 1 = some (bs, true) ∧ bs.length = H.length ∧ (∀ k, k < bs.length → bs.getD k 0 ∈ H.getD k []) ∧ bs.Nodup ∧ ∀ b ∈ bs, 0 ≤ b ∧ b < B := by
  unfold ref19_First
  rw [lmk_ok (by omega) (by omega), Option.bind_some]
  have hu : UsedOf B (List.replicate B.toNat false) (List.replicate B.toNat 0) := ⟨by simp; omega, by simp; omega, fun b b0 b1 => by
    rw [at_rep _ _ b0 (by omega), at_rep _ _ b0 (by omega)]; rfl⟩
  obtain ⟨r, r1, r2⟩ := poss_ok hh (by omega) hu
  rw [r1, Option.bind_some]
  cases r with
  | false =>
    refine .inl ⟨rfl, fun hnil => ?_⟩
    subst hnil
    exact absurd (r2.2 ⟨fun _ => 0, fun j h0 h1 => by simp at h1; omega, fun j k h0 h1 h2 h3 => by simp at h1; omega⟩) (by simp)
  | true =>
    right
    rw [if_neg (by decide)]
    have hp : Placeable H (List.replicate B.toNat false) ((0 : Nat) : Int) := r2.1 rfl
    obtain ⟨bs, b1, b2⟩ := rfirst_L2 (B := B) (homes := H) hh (by omega) (by omega) H 0 (List.replicate B.toNat false) (List.replicate B.toNat 0) [] List.drop_zero hu List.length_nil (Nat.zero_le _) hp
    obtain ⟨g1, g2, g3, g4⟩ := greedy_facts _ _ _ bs hh (by simp; omega) b2
    exact ⟨bs, b1, g1, g2, g3, fun b hb => (g4 b hb).1⟩
theorem build_ok {h : Hsh} (hk : HshOK h) {l : List Ent} (hl : l.length ≤ 1000) (hl2 : l.length ≤ 256) (hv : ∀ e ∈ l, EntOK e) (ha : AscE l) :
    (∃ r, ref20_Build h 1 l = some (r, 15) ∧ l ≠ []) ∨ ∃ E bs, ref20_Build h 1 l = some ((h, 1, E), 0) ∧ bs.length = l.length ∧ bs.Nodup ∧ (∀ k, k < bs.length → bs.getD k 0 ∈ homeL h (sumI (l.getD k (ByteArray.empty, 0)).1)) ∧ Held h.1 l bs bs.length E := by
  unfold ref20_Build
  rw [rcheck, ccheck hk, Option.bind_some, if_neg (by decide), if_neg (by omega), if_neg (by omega)]
  rw [show (ref20_Build_L11 (ref20_Build_J6 1 h.2) l l 0 ([] : List Ent) 0 0 h.1) = ref20_Build_J6 1 h.2 l 0 0 h.1 from sort_L _ 0 0 h.1 l hl hv ha l [] rfl]
  unfold ref20_Build_J6
  rw [homes_L5 hk _ 0 0 l [] (by simp; omega) hv, List.nil_append]
  unfold ref20_Build_J4
  obtain ⟨B1, B2, P1, P2, P3⟩ := id hk
  have hh : HomesOK h.1 (l.map fun e => homeL h (sumI e.1)) := fun x hx b hb => by
    obtain ⟨e, he, rfl⟩ := List.mem_map.1 hx
    exact homeL_range hk _ b hb
  rcases first35 hh ⟨B1, B2⟩ (by simp; omega) with ⟨r1, r2⟩ | ⟨bs, r1, g1, g2, g3, g4⟩
  · rw [r1, Option.bind_some]
    exact .inl ⟨_, rfl, fun hnil => r2 (by rw [hnil]; rfl)⟩
  · right
    rw [r1, Option.bind_some]
    dsimp only
    rw [if_neg (by decide), lapp_ok (by simp; omega), Option.bind_some, lmk_ok (by omega) (by omega), Option.bind_some, List.nil_append]
    rw [List.length_map] at g1
    unfold ref20_Build_J3
    obtain ⟨E, e1, e2⟩ := place_L hk (ref20_Build_J1 h.2) l h.1 1 0 0 h.1 (bs := bs) g1 hl g4 g3 bs 0 (List.replicate h.1.toNat []) rfl (by omega) ⟨by simp; omega, fun b hb => .inr ⟨fun k hk => by omega, by rw [List.getD_eq_getElem?_getD, List.getElem?_replicate, if_pos (by omega)]; rfl⟩⟩
    rw [e1]
    refine ⟨E, bs, rfl, g1, g3, fun k hk2 => ?_, e2⟩
    have := g2 k hk2
    rw [List.getD_eq_getElem?_getD, List.getElem?_map, List.getElem?_eq_getElem (show k < l.length by omega)] at this
    rw [List.getD_eq_getElem?_getD (l := l), List.getElem?_eq_getElem (show k < l.length by omega)]
    exact this
end Go.Proofs.Ytmfppphlhgneeaa
end

section
namespace Go.Proofs.Ytmfppphlhgneeaa
set_option linter.unusedVariables false
set_option maxRecDepth 100000
def K6 : List ByteArray := [⟨#[97, 110, 116]⟩, ⟨#[98, 101, 101]⟩, ⟨#[99, 97, 116]⟩, ⟨#[100, 111, 103]⟩, ⟨#[101, 101, 108]⟩, ⟨#[102, 111, 120]⟩]
theorem k6_asc1 : fence_ascend K6 = some true := by kernel_rfl
theorem k6_asc : AscP K6 := by
  have h := k6_asc1
  rw [ascend_eq (by decide)] at h
  exact of_decide_eq_true (Option.some.inj h)
theorem k6_len : K6.length = 6 := rfl
def GoodE (n : Nat) (e : Ent) : Prop := ∃ i r : Nat, i < n ∧ i < 6 ∧ r < 90 ∧ e = (gd K6 i, (i : Int) * 100 + r)
theorem GoodE.ok {n : Nat} {e : Ent} (h : GoodE n e) : EntOK e := by
  obtain ⟨i, r, h1, h2, h3, rfl⟩ := h
  exact ⟨(k6_asc i (by rw [k6_len]; omega)).1, by dsimp only; omega, by dsimp only; omega⟩
structure DirP (x : Hsh × Int × List (List Ent)) (l : List Ent) : Prop where
  hk : HshOK x.1
  one : x.2.1 = 1
  few : l.length ≤ 3
  good : ∀ e ∈ l, GoodE 6 e
  asc : AscE l
  held : ∃ bs : List Int, bs.length = l.length ∧ bs.Nodup ∧ (∀ k, k < bs.length → bs.getD k 0 ∈ homeL x.1 (sumI (l.getD k (ByteArray.empty, 0)).1)) ∧ Held x.1.1 l bs bs.length x.2.2
theorem dir_J2 {l : List Ent} (hl : l.length ≤ 3) (hg : ∀ e ∈ l, GoodE 6 e) (ha : AscE l) (a b : Int) {d : List Int × Int} (hd : DiceOK d) :
    ∃ x l' e, law35_directory_J2 l a b d.1 d.2 = some (x, l', e) ∧ DirP x l' ∧ DiceOK e := by
  unfold law35_directory_J2
  obtain ⟨v0, e0, h0, a0, b0, c0⟩ := dpick (d := (d.1, d.2)) hd (n := 4) (by omega)
  rw [h0, Option.bind_some]
  obtain ⟨v1, e1, h1, a1, b1, c1⟩ := dpick c0 (n := 9) (by omega)
  rw [h1, Option.bind_some]
  obtain ⟨v2, e2, h2, a2, b2, c2⟩ := dpick c1 (n := 9) (by omega)
  rw [h2, Option.bind_some]
  obtain ⟨v3, e3, h3, a3, b3, c3⟩ := dpick c2 (n := 9) (by omega)
  rw [h3, Option.bind_some]
  obtain ⟨v4, e4, h4, a4, b4, c4⟩ := dpick c3 (n := 9) (by omega)
  rw [h4, Option.bind_some]
  obtain ⟨v5, e5, h5, a5, b5, c5⟩ := dpick c4 (n := 9) (by omega)
  rw [h5, Option.bind_some]
  dsimp only
  rw [w64_id (x := 5 + v0) (by omega) (by omega), w64_id (x := 1 + v1) (by omega) (by omega), w64_id (x := 11 + v3) (by omega) (by omega)]
  have hk : HshOK ((5 + v0), ([((1 + v1), v2), ((11 + v3), v4), (31, v5)] : List (Int × Int))) := by
    refine ⟨by dsimp only; omega, by dsimp only; omega, by simp, by simp, fun p hp => ?_⟩
    simp only [List.mem_cons, List.not_mem_nil, or_false] at hp
    unfold PairOK
    rcases hp with rfl | rfl | rfl <;> dsimp only <;> omega
  generalize ((5 + v0), ([((1 + v1), v2), ((11 + v3), v4), (31, v5)] : List (Int × Int))) = h at hk
  rcases build_ok hk (l := l) (by omega) (by omega) (fun e he => (hg e he).ok) ha with ⟨r, k1, k2⟩ | ⟨E, bs, k1, k2, k3, k4, k5⟩
  · rw [k1, Option.bind_some]
    dsimp only
    rw [if_pos (by decide)]
    rcases build_ok hk (l := []) (by simp) (by simp) (by simp) List.Pairwise.nil with ⟨r, k1, k2⟩ | ⟨E, bs, k1, k2, k3, k4, k5⟩
    · exact absurd rfl k2
    · rw [k1, Option.bind_some]
      exact ⟨(h, 1, E), [], e5, rfl, ⟨hk, rfl, by simp, by simp, List.Pairwise.nil, bs, k2, k3, k4, k5⟩, c5⟩
  · rw [k1, Option.bind_some]
    dsimp only
    rw [if_neg (by decide)]
    exact ⟨(h, 1, E), l, e5, rfl, ⟨hk, rfl, hl, hg, ha, bs, k2, k3, k4, k5⟩, c5⟩
theorem dir_L : ∀ (xs : List ByteArray) (i : Nat) (l : List Ent) (d : List Int × Int), K6.drop i = xs → i ≤ 6 → l.length ≤ 3 → (∀ e ∈ l, GoodE i e) → AscE l → DiceOK d →
    ∃ x l' e, law35_directory_L3 law35_directory_J2 xs i l d.1 d.2 = some (x, l', e) ∧ DirP x l' ∧ DiceOK e
  | [], i, l, d, hx, hi, hl, hg, ha, hd => dir_J2 hl (fun e he => by
      obtain ⟨j, r, h1, h2, h3, h4⟩ := hg e he
      exact ⟨j, r, by omega, h2, h3, h4⟩) ha 0 0 hd
  | w :: xs, i, l, d, hx, hi, hl, hg, ha, hd => by
    show ∃ x l' e, law35_directory_B3 law35_directory_J2 (law35_directory_L3 law35_directory_J2 xs (i + 1)) w i l d.1 d.2 = _ ∧ _
    obtain ⟨hi6, hw⟩ := drop_gd hx
    rw [k6_len] at hi6
    have hx' : K6.drop (i + 1) = xs := by rw [← List.drop_drop, hx]; rfl
    have hg' : ∀ e ∈ l, GoodE (i + 1) e := fun e he => by
      obtain ⟨j, r, h1, h2, h3, h4⟩ := hg e he
      exact ⟨j, r, by omega, h2, h3, h4⟩
    unfold law35_directory_B3
    obtain ⟨v0, e0, h0, a0, b0, c0⟩ := dpick (d := (d.1, d.2)) hd (n := 2) (by omega)
    rw [h0, Option.bind_some]
    dsimp only
    split
    · rename_i hc
      obtain ⟨v1, e1, h1, a1, b1, c1⟩ := dpick c0 (n := 90) (by omega)
      rw [h1, Option.bind_some, lapp_ok (by simp; omega), Option.bind_some, w64_id (x := (i : Int) * 100) (by omega) (by omega), w64_id (by omega) (by omega)]
      refine dir_L xs (i + 1) _ e1 hx' (by omega) (by simp; omega) (fun e he => ?_) ?_ c1
      · rcases List.mem_append.1 he with h | h
        · exact hg' e h
        · rw [List.mem_singleton.1 h]
          exact ⟨i, v1.toNat, by omega, hi6, by omega, by rw [hw, Int.toNat_of_nonneg (by omega)]⟩
      · refine List.pairwise_append.2 ⟨ha, List.pairwise_singleton _ _, fun a hma b hmb => ?_⟩
        rw [List.mem_singleton.1 hmb]
        obtain ⟨j, r, g1, g2, g3, rfl⟩ := hg a hma
        rw [hw]
        exact asc_lt k6_asc g1 (by rw [k6_len]; omega)
    · exact dir_L xs (i + 1) l e0 hx' (by omega) hl hg' ha c0
theorem dir_ok {d : List Int × Int} (hd : DiceOK d) : ∃ x l e, law35_directory d = some (x, l, e) ∧ DirP x l ∧ DiceOK e := by
  exact dir_L K6 0 [] d rfl (by omega) (by simp) (by simp) List.Pairwise.nil hd
end Go.Proofs.Ytmfppphlhgneeaa
end

section
namespace Go.Proofs.Ytmfppphlhgneeaa
set_option linter.unusedVariables false
set_option maxRecDepth 100000
def chk (c : List Ent) : Bool := match keyword_Encode 1 c with
  | some (t, e) => decide (e = 0) && decide (t.size = 37) && decide (keyword_Decode 1 t = some (c, 0))
  | none => false
theorem chkN : chk [] = true := by kernel_rfl
theorem chk0 : ((List.range 90).all fun r => chk [(gd K6 0, ((0 : Nat) : Int) * 100 + (r : Int))]) = true := by kernel_rfl
theorem chk1 : ((List.range 90).all fun r => chk [(gd K6 1, ((1 : Nat) : Int) * 100 + (r : Int))]) = true := by kernel_rfl
end Go.Proofs.Ytmfppphlhgneeaa
end

section
namespace Go.Proofs.Ytmfppphlhgneeaa
set_option linter.unusedVariables false
set_option maxRecDepth 100000
theorem chk2 : ((List.range 90).all fun r => chk [(gd K6 2, ((2 : Nat) : Int) * 100 + (r : Int))]) = true := by kernel_rfl
theorem chk3 : ((List.range 90).all fun r => chk [(gd K6 3, ((3 : Nat) : Int) * 100 + (r : Int))]) = true := by kernel_rfl
end Go.Proofs.Ytmfppphlhgneeaa
end

section
namespace Go.Proofs.Ytmfppphlhgneeaa
set_option linter.unusedVariables false
set_option maxRecDepth 100000
theorem chk4 : ((List.range 90).all fun r => chk [(gd K6 4, ((4 : Nat) : Int) * 100 + (r : Int))]) = true := by kernel_rfl
theorem chk5 : ((List.range 90).all fun r => chk [(gd K6 5, ((5 : Nat) : Int) * 100 + (r : Int))]) = true := by kernel_rfl
end Go.Proofs.Ytmfppphlhgneeaa
end

section
namespace Go.Proofs.Ytmfppphlhgneeaa
set_option linter.unusedVariables false
set_option maxRecDepth 100000
theorem chkE {e : Ent} (h : GoodE 6 e) : chk [e] = true := by
  obtain ⟨i, r, h1, h2, h3, rfl⟩ := h
  have hr := List.mem_range.2 h3
  rcases (by omega : i = 0 ∨ i = 1 ∨ i = 2 ∨ i = 3 ∨ i = 4 ∨ i = 5) with rfl | rfl | rfl | rfl | rfl | rfl
  · exact List.all_eq_true.1 chk0 r hr
  · exact List.all_eq_true.1 chk1 r hr
  · exact List.all_eq_true.1 chk2 r hr
  · exact List.all_eq_true.1 chk3 r hr
  · exact List.all_eq_true.1 chk4 r hr
  · exact List.all_eq_true.1 chk5 r hr
theorem ixf_L (f : Int → Option Bool) : ∀ (l : List Int) (i : Nat), (∀ x ∈ l, f x = some false) → slices_IndexFunc_Lintint_L1 f l i = some (-1)
  | [], i, _ => rfl
  | x :: l, i, h => by
    rw [slices_IndexFunc_Lintint_L1]
    unfold slices_IndexFunc_Lintint_B1
    rw [h x List.mem_cons_self, Option.bind_some, if_neg (by decide)]
    exact ixf_L f l (i + 1) fun y hy => h y (List.mem_cons_of_mem _ hy)
def rowI (c : List Ent) : List Int := ((keyword_Encode 1 c).bind fun t => tobs t.1).getD []
theorem ofB_toB (s : ByteArray) : ofB (toB s) = s := by
  obtain ⟨⟨d⟩⟩ := s
  unfold ofB toB
  have e : (List.map (fun n : Int => UInt8.ofNat n.toNat) (List.map (fun c : UInt8 => ((c.toNat : Nat) : Int)) d)) = d := by
    rw [List.map_map]
    conv => rhs; rw [← List.map_id d]
    exact List.map_congr_left fun c _ => by
      show UInt8.ofNat ((c.toNat : Int).toNat) = c
      rw [Int.toNat_natCast, UInt8.ofNat_toNat]
  show (⟨(List.map (fun n : Int => UInt8.ofNat n.toNat) (List.map (fun c : UInt8 => ((c.toNat : Nat) : Int)) d)).toArray⟩ : ByteArray) = _
  rw [e]
theorem toB_mem {s : ByteArray} {x : Int} (h : x ∈ toB s) : 0 ≤ x ∧ x < 256 := by
  unfold toB at h
  obtain ⟨c, _, rfl⟩ := List.mem_map.1 h
  have := c.toNat_lt
  omega
theorem toB_len (s : ByteArray) : (toB s).length = s.size := by unfold toB; rw [List.length_map]; rfl
theorem bytes_L (a : List Int) (ha : a.length ≤ 1000) (hr : ∀ x ∈ a, 0 ≤ x ∧ x < 256) : ∀ (xs : List Int) (i : Nat), a.drop i = xs → i ≤ a.length →
    lookup_bytesOf_L2 lookup_bytesOf_J1 xs i (a.take i ++ List.replicate (a.length - i) 0) = some (ofB a, true)
  | [], i, h, hi => by
    have : a.length ≤ i := List.drop_eq_nil_iff.1 h
    rw [lookup_bytesOf_L2]
    unfold lookup_bytesOf_J1
    rw [List.take_of_length_le this, Nat.sub_eq_zero_of_le this]
    simp
  | x :: xs, i, h, hi => by
    have hlt : i < a.length := by
      rcases Nat.lt_or_ge i a.length with h' | h'
      · exact h'
      · rw [List.drop_eq_nil_of_le h'] at h; cases h
    rw [lookup_bytesOf_L2]
    unfold lookup_bytesOf_B2
    have hx := hr x (List.mem_of_mem_drop (i := i) (by rw [h]; exact List.mem_cons_self))
    rw [lidx_nat 0 (by simp; omega), Option.bind_some, lupd_ok (by omega) (by simp; omega), Option.bind_some, wu8_id hx.1 (by omega), Int.toNat_natCast]
    have e : (a.take i ++ List.replicate (a.length - i) 0).set i x = a.take (i + 1) ++ List.replicate (a.length - (i + 1)) 0 := by
      rw [List.set_append_right _ _ (by simp; omega), show a.length - i = (a.length - (i + 1)) + 1 by omega, List.replicate_succ]
      have e1 : i - (a.take i).length = 0 := by simp; omega
      rw [e1, List.set_cons_zero, List.take_succ_eq_append_getElem hlt, List.append_assoc]
      rw [List.drop_eq_getElem_cons hlt] at h
      rw [(List.cons.inj h).1]; rfl
    rw [e]
    exact bytes_L a ha hr xs (i + 1) (by rw [← List.drop_drop, h]; rfl) hlt
theorem chk_facts {c : List Ent} (h : chk c = true) : ∃ t, keyword_Encode 1 c = some (t, 0) ∧ tobs t = some (rowI c) ∧ (rowI c).length = 37 ∧ (∀ x ∈ rowI c, 0 ≤ x ∧ x < 256) ∧ lookup_bytesOf (rowI c) = some (t, true) ∧ keyword_Decode 1 t = some (c, 0) := by
  unfold chk at h
  cases h1 : keyword_Encode 1 c with
  | none => rw [h1] at h; cases h
  | some p =>
    obtain ⟨t, e⟩ := p
    rw [h1] at h
    simp only [Bool.and_eq_true, decide_eq_true_eq] at h
    obtain ⟨⟨rfl, h3⟩, h6⟩ := h
    have h2 : tobs t = some (toB t) := by unfold tobs; rw [if_pos (by omega)]
    have e : rowI c = toB t := by unfold rowI; rw [h1, Option.bind_some, h2]; rfl
    rw [e]
    have hl := toB_len t
    refine ⟨t, rfl, h2, by omega, fun x hx => toB_mem hx, ?_, h6⟩
    unfold lookup_bytesOf slices_ContainsFunc_Lintint slices_IndexFunc_Lintint
    rw [ixf_L _ _ 0 (fun x hx => by
      have := toB_mem hx
      unfold lookup_bytesOf_f1
      rw [decide_eq_false (by omega)]), Option.bind_some, Option.bind_some, if_neg (by decide), lmk_ok (by omega) (by omega), Option.bind_some]
    have := bytes_L (toB t) (by omega) (fun x hx => toB_mem hx) (toB t) 0 rfl (by omega)
    rw [ofB_toB] at this
    exact this
structure BkP (h : Hsh) (l : List Ent) (E : List (List Ent)) : Prop where
  len : (E.length : Int) = h.1
  f2 : ∀ b, b < E.length → E.getD b [] = [] ∨ ∃ e ∈ l, E.getD b [] = [e] ∧ (b : Int) ∈ homeL h (sumI e.1)
  f3 : ∀ b b' e e', b < E.length → b' < E.length → E.getD b [] = [e] → E.getD b' [] = [e'] → e.1 = e'.1 → b = b'
  f4 : ∀ e ∈ l, ∃ b, b < E.length ∧ E.getD b [] = [e]
  f5 : ∀ e ∈ l, ∀ e' ∈ l, e.1 = e'.1 → e = e'
theorem asc_inj {l : List Ent} (ha : AscE l) {i j : Nat} (hi : i < l.length) (hj : j < l.length) (h : (l.getD i (ByteArray.empty, 0)).1 = (l.getD j (ByteArray.empty, 0)).1) : i = j := by
  rw [List.getD_eq_getElem?_getD, List.getD_eq_getElem?_getD, List.getElem?_eq_getElem hi, List.getElem?_eq_getElem hj] at h
  have h' : (l[i]).1 = (l[j]).1 := h
  rcases Nat.lt_trichotomy i j with c | c | c
  · have := List.pairwise_iff_getElem.1 ha i j hi hj c
    rw [h'] at this
    exact absurd this (sLt_irr _)
  · exact c
  · have := List.pairwise_iff_getElem.1 ha j i hj hi c
    rw [h'] at this
    exact absurd this (sLt_irr _)
theorem bkp {x : Hsh × Int × List (List Ent)} {l : List Ent} (h : DirP x l) : BkP x.1 l x.2.2 := by
  obtain ⟨bs, b1, b2, b3, b4, b5⟩ := h.held
  have hmem : ∀ k, k < l.length → l.getD k (ByteArray.empty, 0) ∈ l := fun k hk => by
    rw [List.getD_eq_getElem?_getD, List.getElem?_eq_getElem hk]; exact List.getElem_mem _
  have hk := h.hk
  refine ⟨b4, fun b hb => ?_, fun b b' e e' hb hb' he he' hee => ?_, fun e he => ?_, fun e he e' he' hee => ?_⟩
  · rcases b5 b (by omega) with ⟨k, k1, k2, k3⟩ | ⟨k1, k2⟩
    · exact .inr ⟨_, hmem k (by omega), k3, by rw [← k2]; exact b3 k k1⟩
    · exact .inl k2
  · rcases b5 b (by omega) with ⟨k, k1, k2, k3⟩ | ⟨k1, k2⟩
    · rcases b5 b' (by omega) with ⟨q, q1, q2, q3⟩ | ⟨q1, q2⟩
      · rw [k3] at he
        rw [q3] at he'
        have e1 := (List.cons.inj he).1
        have e2 := (List.cons.inj he').1
        have := asc_inj h.asc (i := k) (j := q) (by omega) (by omega) (by rw [e1, e2]; exact hee)
        subst this
        omega
      · rw [q2] at he'; cases he'
    · rw [k2] at he; cases he
  · obtain ⟨k, hk1, rfl⟩ := List.mem_iff_getElem.1 he
    have hb := homeL_range hk _ _ (b3 k (by omega))
    refine ⟨(bs.getD k 0).toNat, by omega, ?_⟩
    rcases b5 (bs.getD k 0).toNat (by omega) with ⟨q, q1, q2, q3⟩ | ⟨q1, q2⟩
    · have e : q = k := by
        rw [Int.toNat_of_nonneg hb.1, List.getD_eq_getElem?_getD, List.getD_eq_getElem?_getD, List.getElem?_eq_getElem q1, List.getElem?_eq_getElem (show k < bs.length by omega)] at q2
        have q2' : bs[q] = bs[k] := q2
        rcases Nat.lt_trichotomy q k with c | c | c
        · exact absurd q2' (List.pairwise_iff_getElem.1 b2 q k _ _ c)
        · exact c
        · exact absurd q2'.symm (List.pairwise_iff_getElem.1 b2 k q _ _ c)
      subst e
      rw [q3, List.getD_eq_getElem?_getD, List.getElem?_eq_getElem hk1]; rfl
    · exact absurd (by omega) (q1 k (by omega))
  · obtain ⟨k, hk1, rfl⟩ := List.mem_iff_getElem.1 he
    obtain ⟨q, hq1, rfl⟩ := List.mem_iff_getElem.1 he'
    have := asc_inj h.asc (i := k) (j := q) hk1 hq1 (by
      rw [List.getD_eq_getElem?_getD, List.getD_eq_getElem?_getD, List.getElem?_eq_getElem hk1, List.getElem?_eq_getElem hq1]; exact hee)
    subst this
    rfl
theorem mget_mput {β : Type} (k : ByteArray) (v : β) (k' : ByteArray) : ∀ l : List (ByteArray × β), mget (mput l k v) k' = if k = k' then some v else mget l k'
  | [] => by simp [mput, mget]
  | (a, b) :: l => by
    have ih := mget_mput k v k' l
    by_cases h1 : a = k
    · subst h1
      simp only [mput, if_pos, mget]
      by_cases h2 : a = k'
      · simp [h2]
      · simp [h2]
    · simp only [mput, if_neg h1, mget]
      by_cases h2 : a = k'
      · subst h2
        rw [if_pos rfl, if_pos rfl, if_neg (fun h => h1 h.symm)]
      · rw [if_neg h2, if_neg h2, ih]
theorem kvalid_eq (e : Ent) : keyword_valid e = some (decide (EntOK e)) := by
  rw [show keyword_valid e = ref20_valid e from rfl, rvalid_eq]
theorem kasc_nil : keyword_ascends [] = some true := rfl
theorem kasc_one {e : Ent} (h : EntOK e) : keyword_ascends [e] = some true := by
  unfold keyword_ascends
  rw [keyword_ascends_L1]
  unfold keyword_ascends_B1
  rw [kvalid_eq, Option.bind_some, if_neg (nb_t h), if_neg (by omega), Option.bind_some, Option.bind_some, if_neg (by decide)]
  rfl
theorem kcheck_L {h : Hsh} (hk : HshOK h) {l : List Ent} {E : List (List Ent)} (hb : BkP h l E) (hv : ∀ e ∈ l, EntOK e) : ∀ (xs : List (List Ent)) (i : Nat) (v : List (ByteArray × Bool)), E.drop i = xs → (∀ k, (mget v k).getD false = true → ∃ b e, b < i ∧ b < E.length ∧ E.getD b [] = [e] ∧ e.1 = k) →
    keyword_Check_L2 h.2 xs i v h.1 1 = some 0
  | [], i, v, _, _ => rfl
  | c :: xs, i, v, hd, hs => by
    have hlt : i < E.length := by
      rcases Nat.lt_or_ge i E.length with h | h
      · exact h
      · rw [List.drop_eq_nil_of_le h] at hd; cases hd
    have hc : E.getD i [] = c := by
      rw [List.drop_eq_getElem_cons hlt] at hd
      rw [List.getD_eq_getElem?_getD, List.getElem?_eq_getElem hlt]
      exact (List.cons.inj hd).1
    have hd' : E.drop (i + 1) = xs := by rw [← List.drop_drop, hd]; rfl
    show keyword_Check_B2 h.2 (keyword_Check_L2 h.2 xs (i + 1)) c i v h.1 1 = _
    unfold keyword_Check_B2
    rcases hb.f2 i hlt with h1 | ⟨e, he, h1, h2⟩
    · rw [hc] at h1
      subst h1
      rw [if_neg (by simp), kasc_nil, Option.bind_some, Option.bind_some, if_neg (by decide)]
      exact kcheck_L hk hb hv xs (i + 1) v hd' fun k hk2 => by
        obtain ⟨b, e, g1, g2, g3, g4⟩ := hs k hk2
        exact ⟨b, e, by omega, g2, g3, g4⟩
    · have hc' := h1
      rw [hc] at h1
      subst h1
      rw [if_neg (by simp), kasc_one (hv e he), Option.bind_some, Option.bind_some, if_neg (by decide)]
      show keyword_Check_B1 _ _ _ _ _ _ _ _ = _
      unfold keyword_Check_B1
      rw [if_neg (fun hm => by
        obtain ⟨b, e', g1, g2, g3, g4⟩ := hs _ hm
        have := hb.f3 b i e' e g2 hlt g3 hc' g4
        omega), show ((h.1, h.2) : Hsh) = h from rfl, khomes_ok hk (by have := (hv e he).1.2; omega), Option.bind_some]
      obtain ⟨r, r1, r2⟩ := contains_ok (homeL h (sumI e.1)) (i : Int)
      rw [r1, Option.bind_some, r2.2 h2, Option.bind_some, if_neg (by decide)]
      refine kcheck_L hk hb hv xs (i + 1) _ hd' fun k hk2 => ?_
      rw [mget_mput] at hk2
      split at hk2
      · rename_i hek
        exact ⟨i, e, by omega, hlt, hc', hek⟩
      · obtain ⟨b, e', g1, g2, g3, g4⟩ := hs k hk2
        exact ⟨b, e', by omega, g2, g3, g4⟩
theorem kcheck_ok {x : Hsh × Int × List (List Ent)} {l : List Ent} (h : DirP x l) : keyword_Check x = some 0 := by
  unfold keyword_Check
  rw [ccheck h.hk, Option.bind_some, if_neg (by decide), h.one]
  rw [show keyword_slotted 1 = some true from rfl, Option.bind_some, Option.bind_some, if_neg (by
    have := (bkp h).len
    intro hc
    rcases hc with hc | hc
    · cases hc
    · exact hc this)]
  exact kcheck_L h.hk (bkp h) (fun e he => (h.good e he).ok) x.2.2 0 [] rfl (fun k hk => by simp [mget] at hk)
abbrev TR := (Int × Int × Int × (List (List Int))) × Int
theorem copy_L (kx : List Int → Int → Int → Int → Int → Int → Int → Option TR) (a b c d e f : Int) : ∀ (xs acc : List Int), (∀ x ∈ xs, 0 ≤ x ∧ x < 256) → acc.length + xs.length ≤ 1000 →
    lookup_Table_L3 kx a b c d e f xs acc = kx (acc ++ xs) a b c d e f
  | [], acc, _, _ => by simp [lookup_Table_L3]
  | x :: xs, acc, h, hl => by
    show lookup_Table_B3 kx a b c d e f (lookup_Table_L3 kx a b c d e f xs) x acc = _
    unfold lookup_Table_B3
    simp only [List.length_cons] at hl
    have := h x List.mem_cons_self
    rw [w64_id (by omega) (by omega), lapp_ok (by simp; omega), Option.bind_some, copy_L kx a b c d e f xs _ (fun y hy => h y (List.mem_cons_of_mem _ hy)) (by simp; omega)]
    simp
theorem rows_L (kx : List (List Int) → Int → Int → Int → Int → Int → Int → Option TR) (a b c d f : Int) : ∀ (xs : List (List Ent)) (acc : List (List Int)), (∀ x ∈ xs, chk x = true) → acc.length + xs.length ≤ 1000 →
    lookup_Table_L4 kx xs acc a b c d 1 f = kx (acc ++ xs.map rowI) a b c d 1 f
  | [], acc, _, _ => by simp [lookup_Table_L4]
  | x :: xs, acc, h, hl => by
    show lookup_Table_B4 kx (lookup_Table_L4 kx xs) x acc a b c d 1 f = _
    unfold lookup_Table_B4
    simp only [List.length_cons] at hl
    obtain ⟨t, t1, t2, t3, t4, t5, t6⟩ := chk_facts (h x List.mem_cons_self)
    rw [t1, Option.bind_some]
    dsimp only
    rw [if_neg (by decide), t2, Option.bind_some, copy_L _ _ _ _ _ _ _ _ _ t4 (by simp; omega)]
    unfold lookup_Table_J2
    rw [List.nil_append, lapp_ok (by simp; omega), Option.bind_some, rows_L kx a b c d f xs _ (fun y hy => h y (List.mem_cons_of_mem _ hy)) (by simp; omega)]
    simp
theorem rall_ok {l : List Int} (h : ∀ x ∈ l, 0 ≤ x ∧ x < 256) : residue_Field_All 257 l = some true := by
  unfold residue_Field_All slices_ContainsFunc_Lintint slices_IndexFunc_Lintint
  rw [ixf_L _ l 0 (fun x hx => by
    have := h x hx
    unfold residue_Field_All_f1 residue_Field_Has
    rw [Option.bind_some, decide_eq_true (by omega)]; rfl)]
  rfl
theorem tcheck_L : ∀ xs : List (List Int), (∀ r ∈ xs, r.length = 37 ∧ ∀ x ∈ r, 0 ≤ x ∧ x < 256) → table_Check_L1 257 37 xs = some 0
  | [], _ => rfl
  | r :: xs, h => by
    show table_Check_B1 257 37 (table_Check_L1 257 37 xs) r = _
    unfold table_Check_B1
    obtain ⟨h1, h2⟩ := h r List.mem_cons_self
    rw [if_neg (by omega), rall_ok h2, Option.bind_some, if_neg (by decide)]
    exact tcheck_L xs fun y hy => h y (List.mem_cons_of_mem _ hy)
theorem res257 : residue_Of 257 = some (257, true) := by kernel_rfl
theorem fld257 : field_Check 257 = some 0 := by kernel_rfl
theorem ref257 : ref03_Check 257 = some 0 := by kernel_rfl
theorem tclone_L (kx : Int → Int → Int → List (List Int) → Int → Int → Int → Int → Option TR) (a b c : Int) : ∀ (xs acc : List (List Int)), (∀ r ∈ xs, r.length ≤ 1000) → acc.length + xs.length ≤ 1000 →
    table_New_L2 kx a b c xs acc = kx a b c (acc ++ xs) 0 0 0 b
  | [], acc, _, _ => by simp [table_New_L2]
  | r :: xs, acc, h, hl => by
    show table_New_B2 kx a b c (table_New_L2 kx a b c xs) r acc = _
    unfold table_New_B2 slices_Clone_Lintint
    simp only [List.length_cons] at hl
    have := h r List.mem_cons_self
    rw [lapp_ok (by simp; omega), Option.bind_some, Option.bind_some, lapp_ok (by simp; omega), Option.bind_some, List.nil_append, tclone_L kx a b c xs _ (fun y hy => h y (List.mem_cons_of_mem _ hy)) (by simp; omega)]
    simp
theorem table_ok {x : Hsh × Int × List (List Ent)} {l : List Ent} (h : DirP x l) : lookup_Table 1 257 x = some ((1, 257, 37, x.2.2.map rowI), 0) ∧ (∀ c ∈ x.2.2, chk c = true) ∧ x.2.2.length ≤ 64 := by
  have hb := bkp h
  have hB := h.hk.2.1
  have hlen := hb.len
  have hc : ∀ c ∈ x.2.2, chk c = true := fun c hm => by
    obtain ⟨i, hi, rfl⟩ := List.mem_iff_getElem.1 hm
    have e : x.2.2.getD i [] = x.2.2[i] := by rw [List.getD_eq_getElem?_getD, List.getElem?_eq_getElem hi]; rfl
    rcases hb.f2 i hi with h1 | ⟨e', he, h1, h2⟩
    · rw [← e, h1]; exact chkN
    · rw [← e, h1]; exact chkE (h.good e' he)
  refine ⟨?_, hc, by omega⟩
  have hr : ∀ r ∈ x.2.2.map rowI, r.length = 37 ∧ ∀ y ∈ r, 0 ≤ y ∧ y < 256 := fun r hm => by
    obtain ⟨c, hm2, rfl⟩ := List.mem_map.1 hm
    obtain ⟨t, t1, t2, t3, t4, t5, t6⟩ := chk_facts (hc c hm2)
    exact ⟨t3, t4⟩
  unfold lookup_Table
  rw [kcheck_ok h, Option.bind_some, if_neg (by decide), fld257, Option.bind_some, if_neg (by decide), h.one]
  rw [show lookup_Width 1 = some 37 by kernel_rfl, Option.bind_some, if_neg (by decide), rows_L _ _ _ _ _ _ x.2.2 [] hc (by simp; omega), List.nil_append]
  unfold lookup_Table_J1
  rw [show lookup_Width 1 = some 37 by kernel_rfl, Option.bind_some]
  unfold table_New table_Check
  dsimp only
  rw [res257, Option.bind_some, if_neg (by decide), if_neg (by decide), if_neg (by decide), if_neg (by rw [List.length_map]; omega), tcheck_L _ hr, Option.bind_some, if_neg (by decide), tclone_L _ _ _ _ _ _ (fun r hm => by have := (hr r hm).1; omega) (by simp; omega)]
  rfl
theorem rin_L : ∀ l : List Int, (∀ x ∈ l, 0 ≤ x ∧ x < 256) → ref03_In_L1 257 l = some true
  | [], _ => rfl
  | x :: l, h => by
    show ref03_In_B1 257 (ref03_In_L1 257 l) x = _
    unfold ref03_In_B1
    have := h x List.mem_cons_self
    rw [if_neg (by omega)]
    exact rin_L l fun y hy => h y (List.mem_cons_of_mem _ hy)
theorem r14_L : ∀ xs : List (List Int), (∀ r ∈ xs, r.length = 37 ∧ ∀ x ∈ r, 0 ≤ x ∧ x < 256) → ref14_Check_L1 257 37 xs = some 0
  | [], _ => rfl
  | r :: xs, h => by
    show ref14_Check_B1 257 37 (ref14_Check_L1 257 37 xs) r = _
    unfold ref14_Check_B1 ref03_In
    obtain ⟨h1, h2⟩ := h r List.mem_cons_self
    rw [if_neg (by omega), ref257, Option.bind_some, if_neg (by decide), rin_L r h2, Option.bind_some, if_neg (by decide)]
    exact r14_L xs fun y hy => h y (List.mem_cons_of_mem _ hy)
def pickI (w : ByteArray) : List Ent → Int × Bool × Int
  | [] => (0, false, 0)
  | e :: c => if e.1 = w then (e.2, true, 0) else pickI w c
theorem kpick_L (rec : Option (Int × Bool × Int)) (w : ByteArray) : ∀ c : List Ent, rec = some (0, false, 0) → keyword_Pick_L1 rec w c = some (pickI w c)
  | [], h => h
  | e :: c, h => by
    show keyword_Pick_B1 rec w (keyword_Pick_L1 rec w c) e = _
    unfold keyword_Pick_B1
    simp only [pickI]
    split
    · rfl
    · exact kpick_L rec w c h
theorem read_ok {c : List Ent} (h : chk c = true) {w : ByteArray} (hw : KeyP w) : lookup_Read 1 w ([(0, rowI c, ([] : List Int))] : List (Int × (List Int) × (List Int))) = some (pickI w c) := by
  obtain ⟨t, t1, t2, t3, t4, t5, t6⟩ := chk_facts h
  unfold lookup_Read
  rw [lookup_Read_L6]
  unfold lookup_Read_B6
  dsimp only
  rw [if_neg (by decide), lookup_Read_L6]
  unfold lookup_Read_J5
  rw [lmk_ok (by omega) (by simp), Option.bind_some, lookup_Read_L4]
  unfold lookup_Read_B4
  dsimp only
  rw [t5, Option.bind_some]
  dsimp only
  rw [if_neg (by decide), lidx_nat ByteArray.empty (by simp), Option.bind_some, lupd_ok (by omega) (by simp), Option.bind_some, lookup_Read_L4]
  unfold lookup_Read_J3
  rw [show (List.replicate (([(0, rowI c, ([] : List Int))] : List (Int × (List Int) × (List Int))).length : Int).toNat ByteArray.empty).set ((0 : Nat) : Int).toNat t = [t] from rfl, lookup_Read_L2]
  unfold lookup_Read_B2
  rw [t6, Option.bind_some]
  dsimp only
  rw [if_neg (by decide), lapp_ok (by simp), Option.bind_some, List.nil_append, lookup_Read_L2]
  unfold lookup_Read_J1 keyword_Pick
  rw [kproper_eq, Option.bind_some, if_neg (nb_t hw), keyword_Pick_L2]
  unfold keyword_Pick_B2
  rw [kpick_L (keyword_Pick_L2 w []) w c rfl, Option.bind_some]
end Go.Proofs.Ytmfppphlhgneeaa
end

section
namespace Go.Proofs.Ytmfppphlhgneeaa
set_option linter.unusedVariables false
set_option maxRecDepth 100000
theorem inner_L (rec : Int → Int → Int → Int → Int → Int → Int → Option Bool) {h : Hsh} {l : List Ent} {E : List (List Ent)} (hb : BkP h l E) (hv : ∀ e ∈ l, EntOK e) {i : Nat} (hi : i < E.length) (hc : chk (E.getD i []) = true) (a b c d e f : Int) :
    ∀ (ys : List Ent) (v : Int), (∀ y ∈ ys, y ∈ l) → 0 ≤ v → v + ys.length ≤ 100000 → law35_LookupTables_L4 rec (i : Int) (rowI (E.getD i [])) E ys v a b c d e f = rec (v + (ys.countP fun y => decide (E.getD i [] = [y]) : Nat)) a b c d e f
  | [], v, _, _, _ => by simp [law35_LookupTables_L4]
  | y :: ys, v, hm, h0, h1 => by
    simp only [List.length_cons] at h1
    have hy := hm y List.mem_cons_self
    have ih := fun v' h0' h1' => inner_L rec hb hv hi hc a b c d e f ys v' (fun z hz => hm z (List.mem_cons_of_mem _ hz)) h0' h1'
    show law35_LookupTables_B4 rec (i : Int) _ E (law35_LookupTables_L4 rec (i : Int) _ E ys) y v a b c d e f = _
    unfold law35_LookupTables_B4
    rw [read_ok hc (hv y hy).1, Option.bind_some, lidx_nat [] hi, Option.bind_some, List.countP_cons]
    rcases hb.f2 i hi with g1 | ⟨e', he, g1, g2⟩
    · rw [g1] at ih ⊢
      rw [show pickI y.1 [] = (0, false, 0) from rfl]
      show law35_LookupTables_J2 (law35_LookupTables_L4 rec (i : Int) _ E ys) v 0 false 0 false y.1 y.2 a b c d e f = _
      unfold law35_LookupTables_J2
      rw [if_neg (by simp), if_neg (by decide), ih v h0 (by omega), if_neg (by simp)]
      simp
    · rw [g1] at ih ⊢
      simp only [pickI]
      by_cases hk : e'.1 = y.1
      · rw [if_pos hk]
        have hey := hb.f5 e' he y hy hk
        subst hey
        show law35_LookupTables_J2 (law35_LookupTables_L4 rec (i : Int) _ E ys) v e'.2 true 0 (decide (false = true ∨ e'.1 = e'.1)) e'.1 e'.2 a b c d e f = _
        unfold law35_LookupTables_J2
        rw [if_neg (by simp), if_pos rfl, w64_id (by omega) (by omega), ih (v + 1) (by omega) (by omega), if_pos (by simp)]
        congr 1
        omega
      · rw [if_neg hk]
        show law35_LookupTables_J2 (law35_LookupTables_L4 rec (i : Int) _ E ys) v 0 false 0 (decide (false = true ∨ e'.1 = y.1)) y.1 y.2 a b c d e f = _
        unfold law35_LookupTables_J2
        rw [if_neg (by simp [hk]), if_neg (by decide), ih v h0 (by omega), if_neg (by
          rw [decide_eq_true_eq]
          intro h2
          exact hk (by rw [(List.cons.inj h2).1]))]
        simp
theorem countP_lt (p : Ent → Nat) (i : Nat) : ∀ l : List Ent, (l.countP fun y => decide (p y < i)) + (l.countP fun y => decide (p y = i)) = l.countP fun y => decide (p y < i + 1)
  | [] => rfl
  | y :: l => by
    have ih := countP_lt p i l
    simp only [List.countP_cons, decide_eq_true_eq]
    rcases Nat.lt_trichotomy (p y) i with h | h | h
    · rw [if_pos h, if_neg (by omega), if_pos (by omega)]; omega
    · rw [if_neg (by omega), if_pos h, if_pos (by omega)]; omega
    · rw [if_neg (by omega), if_neg (by omega), if_neg (by omega)]; omega
theorem outer_L {h : Hsh} {l : List Ent} {E : List (List Ent)} (hb : BkP h l E) (hv : ∀ e ∈ l, EntOK e) (hl : l.length ≤ 1000) (hc : ∀ c ∈ E, chk c = true) (p : Ent → Nat) (hp : ∀ e ∈ l, p e < E.length ∧ E.getD (p e) [] = [e]) (a b c d e f : Int) :
    ∀ (xs : List (List Int)) (i : Nat), (E.map rowI).drop i = xs → i ≤ E.length → law35_LookupTables_L5 (law35_LookupTables_J1 l) l E xs i ((l.countP fun y => decide (p y < i) : Nat) : Int) a b c d e f = some true
  | [], i, hd, hi => by
    have hle : (E.map rowI).length ≤ i := List.drop_eq_nil_iff.1 hd
    rw [List.length_map] at hle
    obtain rfl : i = E.length := by omega
    rw [law35_LookupTables_L5]
    unfold law35_LookupTables_J1
    rw [List.countP_eq_length.2 (fun y hy => decide_eq_true (hp y hy).1), decide_eq_true rfl]
  | x :: xs, i, hd, hi => by
    have hlt : i < E.length := by
      rcases Nat.lt_or_ge i E.length with h | h
      · exact h
      · rw [List.drop_eq_nil_of_le (by rw [List.length_map]; exact h)] at hd; cases hd
    have hx : x = rowI (E.getD i []) := by
      rw [List.drop_eq_getElem_cons (by rw [List.length_map]; exact hlt)] at hd
      rw [List.getD_eq_getElem?_getD, List.getElem?_eq_getElem hlt, ← (List.cons.inj hd).1, List.getElem_map]; rfl
    have hd' : (E.map rowI).drop (i + 1) = xs := by rw [← List.drop_drop, hd]; rfl
    show law35_LookupTables_B5 (law35_LookupTables_J1 l) l E (law35_LookupTables_L5 (law35_LookupTables_J1 l) l E xs (i + 1)) x i _ a b c d e f = _
    unfold law35_LookupTables_B5
    have hcm : chk (E.getD i []) = true := hc _ (by rw [List.getD_eq_getElem?_getD, List.getElem?_eq_getElem hlt]; exact List.getElem_mem _)
    have hcl : (l.countP fun y => decide (p y < i)) ≤ l.length := List.countP_le_length
    rw [hx, inner_L _ hb hv hlt hcm a b c d e f l _ (fun y hy => hy) (by omega) (by omega)]
    have ecount : (l.countP fun y => decide (E.getD i [] = [y])) = l.countP fun y => decide (p y = i) := List.countP_congr fun y hy => by
      rw [decide_eq_true_eq, decide_eq_true_eq]
      obtain ⟨h1, h2⟩ := hp y hy
      constructor
      · intro h3; exact hb.f3 _ _ y y h1 hlt h2 h3 rfl
      · intro h3; rw [← h3]; exact h2
    rw [ecount]
    have := countP_lt p i l
    rw [show (((l.countP fun y => decide (p y < i) : Nat) : Int) + ((l.countP fun y => decide (p y = i) : Nat) : Int)) = ((l.countP fun y => decide (p y < i + 1) : Nat) : Int) by omega]
    exact outer_L hb hv hl hc p hp a b c d e f xs (i + 1) hd' (by omega)
theorem law_tables {t : List Int} (ht : ∀ x ∈ t, 0 ≤ x ∧ x ≤ 255) : law35_LookupTables t = some true := by
  unfold law35_LookupTables
  rw [sane35, Option.bind_some, if_neg (by decide)]
  obtain ⟨d, h1, h2⟩ := dnew ht
  rw [h1, Option.bind_some]
  obtain ⟨x, l, e, x1, x2, x3⟩ := dir_ok h2
  rw [x1, Option.bind_some]
  dsimp only
  obtain ⟨t1, t2, t3⟩ := table_ok x2
  have hb := bkp x2
  have hlen := hb.len
  have hr : ∀ r ∈ x.2.2.map rowI, r.length = 37 ∧ ∀ y ∈ r, 0 ≤ y ∧ y < 256 := fun r hm => by
    obtain ⟨c, hm2, rfl⟩ := List.mem_map.1 hm
    obtain ⟨t, t1, t2, t3, t4, t5, t6⟩ := chk_facts (t2 c hm2)
    exact ⟨t3, t4⟩
  rw [t1, Option.bind_some]
  dsimp only
  rw [if_neg (by rw [List.length_map]; omega), show lookup_Width 1 = some 37 by kernel_rfl, Option.bind_some, Option.bind_some, if_neg (by simp)]
  have h14 : ref14_Check (1, 257, 37, x.2.2.map rowI) = some 0 := by
    unfold ref14_Check
    dsimp only
    rw [if_neg (by decide), ref257, Option.bind_some, if_neg (by decide), if_neg (by decide), if_neg (by rw [List.length_map]; omega)]
    exact r14_L _ hr
  rw [h14, Option.bind_some, Option.bind_some, if_neg (by decide)]
  obtain ⟨p, hp⟩ := Classical.axiomOfChoice (r := fun (e : Ent) (b : Nat) => e ∈ l → b < x.2.2.length ∧ x.2.2.getD b [] = [e]) (fun e => (Classical.em (e ∈ l)).elim (fun h => by
    obtain ⟨b, h1⟩ := hb.f4 e h
    exact ⟨b, fun _ => h1⟩) (fun h => ⟨0, fun h' => absurd h' h⟩))
  have := outer_L hb (fun e he => (x2.good e he).ok) (by have := x2.few; omega) t2 p hp 1 257 37 x.1.1 x.2.1 e.2 (x.2.2.map rowI) 0 rfl (by omega)
  rw [show (l.countP fun y => decide (p y < 0)) = 0 from List.countP_eq_zero.2 (fun y _ => by simp)] at this
  exact this
end Go.Proofs.Ytmfppphlhgneeaa
end
