/- What the proof needs, gathered by wip/gen/shake.py. -/
import Derived.Calls
import Derived.Deep.Quiet
import Derived.Below
import Derived.Laws.AppendOwn
import Derived.WalkKit
import Derived.Laws.OwnMore
import Derived.Deep.Slices
import Derived.ChangeOld
import Derived.ArgAppend
import Derived.RangeFuncIn
import Derived.RangeFuncRecord
import Derived.RangeFuncLeaves
import Derived.Laws.MakeOwn
import Derived.IntWalk
import Derived.Laws.IdiomStrings
import Derived.Laws.Cover3
import Derived.Laws.CopyOwn
import Derived.MapKept
import Derived.RangeFuncNested
import Derived.Test.YtfcicopgdahmcaaGreatDoorRows
import Derived.LaidEql
import Derived.Stop.Asserts
import Derived.RowKitTokens
import Derived.Test.YtfcicopgdahmcaaGreatDoorCards
import Derived.LaidLaws
import Derived.Look8
import Derived.MakeChecks
import Derived.Test.YtfcicopgdahmcaaGreatDoorTie
import Derived.LaidMore
import Derived.Lay
import Derived.SevenTiedAt
import Derived.Stop.Joined
import Derived.ProofKit
import Derived.OpenShut
import Derived.ShutString
import Derived.Test.YtfcicopgdahmcaaGreatDoorTopBatchQ2

section
set_option maxHeartbeats 4000000
set_option maxRecDepth 100000
namespace Go.Proofs.YtfcicopgdahmcaaGreatDoor
open Go.RowKit
set_option linter.unusedSimpArgs false
set_option linter.unusedVariables false
set_option synthInstance.maxSize 2000
set_option synthInstance.maxHeartbeats 400000
theorem ty3 : TyI Tryz.prog 3 false 1 8 [.int .i64 0] := ⟨by kernel_rfl, by kernel_rfl, by kernel_rfl, by kernel_rfl⟩
theorem ty4 : TyI Tryz.prog 4 false 1 1 [.bool false] := ⟨by kernel_rfl, by kernel_rfl, by kernel_rfl, by kernel_rfl⟩
theorem ty22 : TyI Tryz.prog 22 false 1 24 [.slice none 0 0] := ⟨by kernel_rfl, by kernel_rfl, by kernel_rfl, by kernel_rfl⟩
theorem ty33 : TyI Tryz.prog 33 false 1 8 [.int .i64 0] := ⟨by kernel_rfl, by kernel_rfl, by kernel_rfl, by kernel_rfl⟩
theorem ty45 : TyI Tryz.prog 45 true 1 8 [.int .i64 0] := ⟨by kernel_rfl, by kernel_rfl, by kernel_rfl, by kernel_rfl⟩
theorem ty51 : TyI Tryz.prog 51 false 1 24 [.slice none 0 0] := ⟨by kernel_rfl, by kernel_rfl, by kernel_rfl, by kernel_rfl⟩
theorem ty56 : TyI Tryz.prog 56 true 2 32 [.slice none 0 0, .int .i64 0] := ⟨by kernel_rfl, by kernel_rfl, by kernel_rfl, by kernel_rfl⟩
theorem ty60 : TyI Tryz.prog 60 false 1 24 [.slice none 0 0] := ⟨by kernel_rfl, by kernel_rfl, by kernel_rfl, by kernel_rfl⟩
theorem ty63 : TyI Tryz.prog 63 true 2 32 [.bool false, .slice none 0 0] := ⟨by kernel_rfl, by kernel_rfl, by kernel_rfl, by kernel_rfl⟩
theorem ty65 : TyI Tryz.prog 65 true 2 48 [.slice none 0 0, .slice none 0 0] := ⟨by kernel_rfl, by kernel_rfl, by kernel_rfl, by kernel_rfl⟩
theorem ty69 : TyI Tryz.prog 69 true 2 16 [.int .i64 0, .int .i64 0] := ⟨by kernel_rfl, by kernel_rfl, by kernel_rfl, by kernel_rfl⟩
theorem ty81 : TyI Tryz.prog 81 false 1 24 [.slice none 0 0] := ⟨by kernel_rfl, by kernel_rfl, by kernel_rfl, by kernel_rfl⟩
theorem ty83 : TyI Tryz.prog 83 true 2 32 [.int .i64 0, .slice none 0 0] := ⟨by kernel_rfl, by kernel_rfl, by kernel_rfl, by kernel_rfl⟩
theorem ty87 : TyI Tryz.prog 87 true 1 24 [.slice none 0 0] := ⟨by kernel_rfl, by kernel_rfl, by kernel_rfl, by kernel_rfl⟩
theorem ty121 : TyI Tryz.prog 121 true 2 32 [.slice none 0 0, .int .i64 0] := ⟨by kernel_rfl, by kernel_rfl, by kernel_rfl, by kernel_rfl⟩
theorem ty140 : TyI Tryz.prog 140 false 1 8 [.int .i64 0] := ⟨by kernel_rfl, by kernel_rfl, by kernel_rfl, by kernel_rfl⟩
theorem ty162 : TyI Tryz.prog 162 true 3 40 [.int .i64 0, .int .i64 0, .slice none 0 0] := ⟨by kernel_rfl, by kernel_rfl, by kernel_rfl, by kernel_rfl⟩
theorem ty168 : TyI Tryz.prog 168 true 2 16 [.int .i64 0, .int .i64 0] := ⟨by kernel_rfl, by kernel_rfl, by kernel_rfl, by kernel_rfl⟩
theorem ty174 : TyI Tryz.prog 174 false 1 24 [.slice none 0 0] := ⟨by kernel_rfl, by kernel_rfl, by kernel_rfl, by kernel_rfl⟩
theorem ty176 : TyI Tryz.prog 176 true 3 72 [.slice none 0 0, .slice none 0 0, .slice none 0 0] := ⟨by kernel_rfl, by kernel_rfl, by kernel_rfl, by kernel_rfl⟩
theorem ty207 : TyI Tryz.prog 207 true 2 32 [.slice none 0 0, .int .i64 0] := ⟨by kernel_rfl, by kernel_rfl, by kernel_rfl, by kernel_rfl⟩
theorem ty209 : TyI Tryz.prog 209 true 3 56 [.slice none 0 0, .int .i64 0, .slice none 0 0] := ⟨by kernel_rfl, by kernel_rfl, by kernel_rfl, by kernel_rfl⟩
theorem ty215 : TyI Tryz.prog 215 true 2 48 [.slice none 0 0, .slice none 0 0] := ⟨by kernel_rfl, by kernel_rfl, by kernel_rfl, by kernel_rfl⟩
theorem ty218 : TyI Tryz.prog 218 false 1 24 [.slice none 0 0] := ⟨by kernel_rfl, by kernel_rfl, by kernel_rfl, by kernel_rfl⟩
theorem ty220 : TyI Tryz.prog 220 true 2 16 [.int .i64 0, .bool false] := ⟨by kernel_rfl, by kernel_rfl, by kernel_rfl, by kernel_rfl⟩
theorem ty233 : TyI Tryz.prog 233 false 1 16 [.nilIface] := ⟨by kernel_rfl, by kernel_rfl, by kernel_rfl, by kernel_rfl⟩
theorem ty256 : TyI Tryz.prog 256 true 5 72 [.int .i64 0, .int .i64 0, .int .i64 0, .slice none 0 0, .slice none 0 0] := ⟨by kernel_rfl, by kernel_rfl, by kernel_rfl, by kernel_rfl⟩
theorem ty284 : TyI Tryz.prog 284 true 32 256 [.int .i64 0, .int .i64 0, .int .i64 0, .int .i64 0, .int .i64 0, .int .i64 0, .int .i64 0, .int .i64 0, .int .i64 0, .int .i64 0, .int .i64 0, .int .i64 0, .int .i64 0, .int .i64 0, .int .i64 0, .int .i64 0, .int .i64 0, .int .i64 0, .int .i64 0, .int .i64 0, .int .i64 0, .int .i64 0, .int .i64 0, .int .i64 0, .int .i64 0, .int .i64 0, .int .i64 0, .int .i64 0, .int .i64 0, .int .i64 0, .int .i64 0, .int .i64 0] := ⟨by kernel_rfl, by kernel_rfl, by kernel_rfl, by kernel_rfl⟩
theorem ty286 : TyI Tryz.prog 286 true 36 304 [.int .i64 0, .int .i64 0, .slice none 0 0, .int .i64 0, .int .i64 0, .int .i64 0, .int .i64 0, .int .i64 0, .int .i64 0, .int .i64 0, .int .i64 0, .int .i64 0, .int .i64 0, .int .i64 0, .int .i64 0, .int .i64 0, .int .i64 0, .int .i64 0, .int .i64 0, .int .i64 0, .int .i64 0, .int .i64 0, .int .i64 0, .int .i64 0, .int .i64 0, .int .i64 0, .int .i64 0, .int .i64 0, .int .i64 0, .int .i64 0, .int .i64 0, .int .i64 0, .int .i64 0, .int .i64 0, .int .i64 0, .int .i64 0] := ⟨by kernel_rfl, by kernel_rfl, by kernel_rfl, by kernel_rfl⟩
theorem fl45_0 : fldOf Tryz.prog 45 0 = some (0, 3) := by kernel_rfl
theorem fl56_0 : fldOf Tryz.prog 56 0 = some (0, 22) := by kernel_rfl
theorem fl56_1 : fldOf Tryz.prog 56 1 = some (1, 3) := by kernel_rfl
theorem fl63_0 : fldOf Tryz.prog 63 0 = some (0, 4) := by kernel_rfl
theorem fl63_1 : fldOf Tryz.prog 63 1 = some (1, 22) := by kernel_rfl
theorem fl65_0 : fldOf Tryz.prog 65 0 = some (0, 22) := by kernel_rfl
theorem fl69_0 : fldOf Tryz.prog 69 0 = some (0, 3) := by kernel_rfl
theorem fl69_1 : fldOf Tryz.prog 69 1 = some (1, 3) := by kernel_rfl
theorem fl83_0 : fldOf Tryz.prog 83 0 = some (0, 3) := by kernel_rfl
theorem fl83_1 : fldOf Tryz.prog 83 1 = some (1, 81) := by kernel_rfl
theorem fl87_0 : fldOf Tryz.prog 87 0 = some (0, 22) := by kernel_rfl
theorem fl121_0 : fldOf Tryz.prog 121 0 = some (0, 22) := by kernel_rfl
theorem fl121_1 : fldOf Tryz.prog 121 1 = some (1, 3) := by kernel_rfl
theorem fl162_0 : fldOf Tryz.prog 162 0 = some (0, 45) := by kernel_rfl
theorem fl162_1 : fldOf Tryz.prog 162 1 = some (1, 3) := by kernel_rfl
theorem fl162_2 : fldOf Tryz.prog 162 2 = some (2, 60) := by kernel_rfl
theorem fl168_0 : fldOf Tryz.prog 168 0 = some (0, 3) := by kernel_rfl
theorem fl168_1 : fldOf Tryz.prog 168 1 = some (1, 3) := by kernel_rfl
theorem fl176_0 : fldOf Tryz.prog 176 0 = some (0, 51) := by kernel_rfl
theorem fl176_1 : fldOf Tryz.prog 176 1 = some (1, 22) := by kernel_rfl
theorem fl176_2 : fldOf Tryz.prog 176 2 = some (2, 174) := by kernel_rfl
theorem fl207_0 : fldOf Tryz.prog 207 0 = some (0, 22) := by kernel_rfl
theorem fl207_1 : fldOf Tryz.prog 207 1 = some (1, 3) := by kernel_rfl
theorem fl209_0 : fldOf Tryz.prog 209 0 = some (0, 207) := by kernel_rfl
theorem fl209_1 : fldOf Tryz.prog 209 1 = some (2, 22) := by kernel_rfl
theorem fl215_0 : fldOf Tryz.prog 215 0 = some (0, 22) := by kernel_rfl
theorem fl215_1 : fldOf Tryz.prog 215 1 = some (1, 22) := by kernel_rfl
theorem fl220_0 : fldOf Tryz.prog 220 0 = some (0, 3) := by kernel_rfl
theorem fl220_1 : fldOf Tryz.prog 220 1 = some (1, 4) := by kernel_rfl
theorem fl256_0 : fldOf Tryz.prog 256 0 = some (0, 45) := by kernel_rfl
theorem fl256_1 : fldOf Tryz.prog 256 1 = some (1, 3) := by kernel_rfl
theorem fl256_2 : fldOf Tryz.prog 256 2 = some (2, 3) := by kernel_rfl
theorem fl256_3 : fldOf Tryz.prog 256 3 = some (3, 22) := by kernel_rfl
theorem fl256_4 : fldOf Tryz.prog 256 4 = some (4, 22) := by kernel_rfl
theorem fl286_0 : fldOf Tryz.prog 286 0 = some (0, 140) := by kernel_rfl
theorem fl286_1 : fldOf Tryz.prog 286 1 = some (1, 3) := by kernel_rfl
theorem fl286_2 : fldOf Tryz.prog 286 2 = some (2, 51) := by kernel_rfl
theorem fl286_3 : fldOf Tryz.prog 286 3 = some (3, 3) := by kernel_rfl
theorem fl286_4 : fldOf Tryz.prog 286 4 = some (4, 284) := by kernel_rfl
theorem pl45 : plOf Tryz.prog 45 = some [(0, 1)] := by kernel_rfl
theorem pl56 : plOf Tryz.prog 56 = some [(0, 1), (1, 1)] := by kernel_rfl
theorem pl63 : plOf Tryz.prog 63 = some [(0, 1), (1, 1)] := by kernel_rfl
theorem pl65 : plOf Tryz.prog 65 = some [(0, 1), (1, 1)] := by kernel_rfl
theorem pl69 : plOf Tryz.prog 69 = some [(0, 1), (1, 1)] := by kernel_rfl
theorem pl83 : plOf Tryz.prog 83 = some [(0, 1), (1, 1)] := by kernel_rfl
theorem pl87 : plOf Tryz.prog 87 = some [(0, 1)] := by kernel_rfl
theorem pl121 : plOf Tryz.prog 121 = some [(0, 1), (1, 1)] := by kernel_rfl
theorem pl162 : plOf Tryz.prog 162 = some [(0, 1), (1, 1), (2, 1)] := by kernel_rfl
theorem pl168 : plOf Tryz.prog 168 = some [(0, 1), (1, 1)] := by kernel_rfl
theorem pl176 : plOf Tryz.prog 176 = some [(0, 1), (1, 1), (2, 1)] := by kernel_rfl
theorem pl207 : plOf Tryz.prog 207 = some [(0, 1), (1, 1)] := by kernel_rfl
theorem pl209 : plOf Tryz.prog 209 = some [(0, 2), (2, 1)] := by kernel_rfl
theorem pl215 : plOf Tryz.prog 215 = some [(0, 1), (1, 1)] := by kernel_rfl
theorem pl220 : plOf Tryz.prog 220 = some [(0, 1), (1, 1)] := by kernel_rfl
theorem pl256 : plOf Tryz.prog 256 = some [(0, 1), (1, 1), (2, 1), (3, 1), (4, 1)] := by kernel_rfl
theorem pl286 : plOf Tryz.prog 286 = some [(0, 1), (1, 1), (2, 1), (3, 1), (4, 32)] := by kernel_rfl
theorem sl22 : slOf Tryz.prog 22 = some 3 := by kernel_rfl
theorem sl51 : slOf Tryz.prog 51 = some 22 := by kernel_rfl
theorem sl60 : slOf Tryz.prog 60 = some 63 := by kernel_rfl
theorem sl81 : slOf Tryz.prog 81 = some 168 := by kernel_rfl
theorem sl174 : slOf Tryz.prog 174 = some 4 := by kernel_rfl
theorem sl218 : slOf Tryz.prog 218 = some 220 := by kernel_rfl
theorem ar284 : arOf Tryz.prog 284 = some (32, 3) := by kernel_rfl
theorem residue_Field_Mul_c {Fs : List Hp} {G : Hp} {x0 : Int} {x1 : Int} {x2 : Int} {r : Int} (hG : G ∈ Fs)  (h : residue_Field_Mul x0 x1 x2 = some r) : RetS Tryz.prog 77 #[.int .i64 x0, .int .i64 x1, .int .i64 x2] Fs [] [] (fun v bo so => v = .int .i64 r ∧ bo = [] ∧ so = []) := by
 unfold residue_Field_Mul at h
 try dsimp only at h
 refine RetS.of (vs := [_, _, _]) Tryz.func77 rfl Tryz.ntmps77 [(0, _), (1, _), (2, _)] ⟨rfl, rfl, rfl, trivial⟩ rfl hG fun w0 S0 hS0 B0 => ?_
 refine .seq (.region rfl (.av rfl rfl (.re (.seq (.region rfl (.mv rfl rfl (.mv rfl rfl (.q .ro (.mulw rfl rfl) rfl (.mv rfl rfl ?_)))))))))
 obtain ⟨u1, hu1, r2⟩ := bind_some h
 refine .q .ro (.remt rfl rfl (nz_some hu1)) rfl (.av rfl rfl (.re ?_))
 cases r2
 refine .retS (.inr ⟨_, rfl⟩) [.tmp 6] [_] rfl Tryz.func77 Tryz.results77 ⟨RV.tmp rfl, trivial⟩ mcm ⟨rfl, rfl, rfl⟩
theorem residue_Field_Add_c {Fs : List Hp} {G : Hp} {x0 : Int} {x1 : Int} {x2 : Int} {r : Int} (hG : G ∈ Fs)  (h : residue_Field_Add x0 x1 x2 = some r) : RetS Tryz.prog 80 #[.int .i64 x0, .int .i64 x1, .int .i64 x2] Fs [] [] (fun v bo so => v = .int .i64 r ∧ bo = [] ∧ so = []) := by
 unfold residue_Field_Add at h
 try dsimp only at h
 refine RetS.of (vs := [_, _, _]) Tryz.func80 rfl Tryz.ntmps80 [(0, _), (1, _), (2, _)] ⟨rfl, rfl, rfl, trivial⟩ rfl hG fun w0 S0 hS0 B0 => ?_
 refine .seq (.region rfl (.av rfl rfl (.re (.seq (.region rfl (.mv rfl rfl (.mv rfl rfl (.q .ro (.addw rfl rfl) rfl (.mv rfl rfl ?_)))))))))
 obtain ⟨u1, hu1, r2⟩ := bind_some h
 refine .q .ro (.remt rfl rfl (nz_some hu1)) rfl (.av rfl rfl (.re ?_))
 cases r2
 refine .retS (.inr ⟨_, rfl⟩) [.tmp 6] [_] rfl Tryz.func80 Tryz.results80 ⟨RV.tmp rfl, trivial⟩ mcm ⟨rfl, rfl, rfl⟩
theorem residue_Field_AddTimes_c {Fs : List Hp} {G : Hp} {x0 : Int} {a1 : Option Addr} {k1 : Nat} {x1 : List Int} {cc1 : List Value} {bb1 : Option Nat} {pre1 post1 : List Value} {x2 : Int} {a3 : Option Addr} {k3 : Nat} {x3 : List Int} {r : (List Int)} (hG : G ∈ Fs) (vva1 : VA a1 bb1 x1.length k1 pre1 cc1) (oo1 : OL ri G cc1 x1) (s3 : SlR ri G a3 k3 x3) (h : residue_Field_AddTimes x0 x1 x2 x3 = some r) : RetS Tryz.prog 67 #[.int .i64 x0, .slice a1 x1.length k1, .int .i64 x2, .slice a3 x3.length k3] Fs [] [.g (viewG bb1 3 pre1 cc1 post1)] (fun v bo so => ∃ lc0 : List Value, v = .tuple #[] ∧ bo = [] ∧ so = [.g (viewG bb1 3 pre1 lc0 post1)] ∧ OL ri G lc0 r ∧ r.length = x1.length) := by
 unfold residue_Field_AddTimes at h
 try dsimp only at h
 refine RetS.of (vs := [_, _, _, _]) Tryz.func67 rfl Tryz.ntmps67 [(0, _), (1, _), (2, _), (3, _)] ⟨rfl, rfl, rfl, rfl, trivial⟩ rfl hG fun w0 S0 hS0 B0 => ?_
 refine .seq (.region rfl (.mv rfl rfl (.q .ro (.len_sl rfl rfl sl22) rfl (.mv rfl rfl (.re (.block ?_))))))
 refine .loop2 (α := Nat × List Int × List Int × List Value) (fun y => [(1, .slice a1 y.2.2.1.length k1), (12, .int .i64 (y.1 : Int))]) [(0, _), (2, _), (10, _), (11, _)] (fun y => []) (fun y => []) [] (fun y => [.g (viewG bb1 3 pre1 y.2.2.2 post1)]) [] (fun y => OL ri G y.2.2.2 y.2.2.1 ∧ VA a1 bb1 y.2.2.1.length k1 pre1 y.2.2.2 ∧ y.2.2.1.length = x1.length ∧ List.drop y.1 x3 = y.2.1 ∧ residue_Field_AddTimes_L1 x0 x2 y.2.1 y.1 y.2.2.1 = some r) (fun y => y.2.1.length) (0, x3, x1, cc1) ⟨oo1, vva1, rfl, rfl, h⟩ ⟨rfl, rfl, rfl, rfl, rfl, rfl, trivial⟩ rfl rfl rfl (fun y hI hb10 => ?_)
 obtain ⟨i11, w12, v13, cs14⟩ := y
 obtain ⟨o15, va16, hl17, g18, r19⟩ := hI
 try dsimp only at o15 va16 hl17 g18 r19
 refine .prune [(1, .slice a1 v13.length k1), (12, .int .i64 (i11 : Int)), (0, _), (2, _), (10, _), (11, _)] ⟨rfl, rfl, rfl, rfl, rfl, rfl, trivial⟩ (.same (bl' := []) (sl' := [.g (viewG bb1 3 pre1 cs14 post1)]) (Fs' := G :: Fs) rfl rfl rfl ?_)
 cases w12 with
 | nil =>
  rw [residue_Field_AddTimes_L1] at r19; try dsimp only at r19
  refine .seq (.region rfl (.q .ro (.lss rfl rfl) rfl (.re (.seq ?_))))
  refine .cond_dec rfl (fun c => absurd c (drop_nil g18)) (fun _ => ?_)
  refine .exit rfl ?_
  cases r19
  refine .retS (.inl rfl) [] [] rfl Tryz.func67 Tryz.results67 trivial mcm ⟨cs14, rfl, rfl, rfl, o15, hl17⟩
 | cons x20 xs21 =>
  have r23 : residue_Field_AddTimes_B1 x0 x2 (residue_Field_AddTimes_L1 x0 x2 xs21 (i11 + 1)) x20 i11 v13 = some r := r19; clear r19; unfold residue_Field_AddTimes_B1 at r23; try dsimp only at r23
  refine .seq (.region rfl (.q .ro (.lss rfl rfl) rfl (.re (.seq ?_))))
  refine .cond_dec rfl (fun _ => ?_) (fun c => absurd (drop_lt g18) c)
  refine .skip (.seq (.block (.seq (.region rfl (.mv rfl rfl ?_)))))
  obtain ⟨c24, p25, h26⟩ := SlR.get s3 (drop_idx g18)
  obtain rfl := h26
  refine .q .ro (.idxR s3 rfl rfl (drop_idx g18) sl22 ty3.sz) rfl (.q .ro (.load_rp p25 mcs rfl ty3 rfl) rfl (.av rfl rfl (.av rfl rfl (.re (.drawL (.q 0 (.q 1 (.q 2 (.q 3 (.q 4 (.q 7 (.q 8 (.q 9 (.alt (.e 5 1 (.alt (.e 6 1 (.e 10 1 (.e 11 1 (.e 12 2 (.e 13 2 .nil))))) (.e 10 1 (.e 6 1 (.e 11 1 (.e 12 2 (.e 13 2 .nil))))))) (.e 10 1 (.e 5 1 (.e 6 1 (.e 11 1 (.e 12 2 (.e 13 2 .nil))))))))))))))) [] (by kernel_rfl) (by kernel_rfl) (pick_mem [] rfl) ?_)))))
  obtain ⟨u27, hu27, r28⟩ := bind_some r23
  obtain ⟨u29, hu29, r30⟩ := bind_some r28
  obtain ⟨u31, hu31, r32⟩ := bind_some r30
  obtain ⟨u33, hu33, r34⟩ := bind_some r32
  obtain ⟨u35, hu35, r36⟩ := bind_some r34
  refine .dq (.move rfl) rfl (.dq (.move rfl) rfl (.dq (.move rfl) rfl (.dq (.move rfl) rfl (.dq (.move rfl) rfl (.dq (.move rfl) rfl (.dq (.move rfl) rfl (.dq (.move rfl) rfl ?_)))))))
  refine .alt ?_ ?_
  ·obtain ⟨c37, p38, h39⟩ := OL.get o15 hu27
   obtain rfl := h39
   refine .q .d1 (.idxV 0 rfl va16 o15 rfl rfl hu27 sl22 ty3.sz rfl rfl) rfl (.clsL (HpLe.refl _) (pick_mem [] rfl) ?_)
   refine .alt ?_ ?_
   ·refine .q .d1 (.loadV 0 0 rfl va16 o15 rfl rfl hu27 p38 rfl (.inl ⟨rfl, rfl⟩) ty3 rfl) rfl ?_
    refine .clsL (HpLe.refl _) (pick_mem [] rfl) ?_
    refine .callS (b1 := []) (b2 := []) (s1 := []) [_, _, _] [] .d1 rfl rfl Tryz.call77 rfl rfl (residue_Field_Mul_c (G := G) mcs  hu29) rfl (fun v40 bo so h41 => ?_)
    obtain ⟨rfl, rfl, rfl⟩ := h41
    refine .same (bl' := []) (sl' := [_]) rfl rfl rfl (.clsL (HpLe.refl _) (pick_mem [] rfl) ?_)
    refine .callS (b1 := []) (b2 := []) (s1 := []) [_, _, _] [] .d1 rfl rfl Tryz.call80 rfl rfl (residue_Field_Add_c (G := G) mcs  hu31) rfl (fun v42 bo so h43 => ?_)
    obtain ⟨rfl, rfl, rfl⟩ := h43
    refine .same (bl' := []) (sl' := [_]) rfl rfl rfl (.clsL (HpLe.refl _) (pick_mem [] rfl) ?_)
    obtain ⟨c44, p45, h46⟩ := OL.get o15 hu33
    obtain rfl := h46
    refine .q .d2 (.idxV 0 rfl va16 o15 rfl rfl hu33 sl22 ty3.sz rfl rfl) rfl ?_
    refine .storeV 0 0 (Q := ri) .d2 rfl va16 rfl rfl o15 hu35 rfl (.inl ⟨rfl, rfl⟩) rfl ty3 p45 ((Rep.intI .i64 u31) :) rfl rfl (fun cs47 hlcs47 o48 va49 => ?_)
    refine .reval 1 hlcs47 rfl (.reval 17 hlcs47 rfl (.reval 20 hlcs47 rfl (.draw_end (.prune [(1, _), (12, _), (0, _), (2, _), (10, _), (11, _)] ⟨rfl, rfl, rfl, rfl, rfl, rfl, trivial⟩ (.inBlock (.region rfl (.q .ro (.addw rfl rfl) rfl (.mv rfl rfl (.re ?_)))))))))
    exact .arr (hb10 ((i11 + 1), xs21, u35, cs47) ⟨o48, va49, (hlcs47.trans hl17), (drop_succ g18), r36⟩ (Nat.lt_succ_self _)) ⟨rfl, (congrArg (fun z => some (Value.int .i64 z)) (idx_wrap (SlR.len s3) g18)), rfl, rfl, rfl, rfl, trivial⟩
   ·refine .callS (b1 := []) (b2 := []) (s1 := []) [_, _, _] [] .d1 rfl rfl Tryz.call77 rfl rfl (residue_Field_Mul_c (G := G) mcs  hu29) rfl (fun v50 bo so h51 => ?_)
    obtain ⟨rfl, rfl, rfl⟩ := h51
    refine .same (bl' := []) (sl' := [_]) rfl rfl rfl (.clsL (HpLe.refl _) (pick_mem [] rfl) (.q .d1 (.loadV 0 0 rfl va16 o15 rfl rfl hu27 p38 rfl (.inl ⟨rfl, rfl⟩) ty3 rfl) rfl (.clsL (HpLe.refl _) (pick_mem [] rfl) ?_)))
    refine .callS (b1 := []) (b2 := []) (s1 := []) [_, _, _] [] .d1 rfl rfl Tryz.call80 rfl rfl (residue_Field_Add_c (G := G) mcs  hu31) rfl (fun v52 bo so h53 => ?_)
    obtain ⟨rfl, rfl, rfl⟩ := h53
    refine .same (bl' := []) (sl' := [_]) rfl rfl rfl (.clsL (HpLe.refl _) (pick_mem [] rfl) ?_)
    obtain ⟨c54, p55, h56⟩ := OL.get o15 hu33
    obtain rfl := h56
    refine .q .d2 (.idxV 0 rfl va16 o15 rfl rfl hu33 sl22 ty3.sz rfl rfl) rfl ?_
    refine .storeV 0 0 (Q := ri) .d2 rfl va16 rfl rfl o15 hu35 rfl (.inl ⟨rfl, rfl⟩) rfl ty3 p55 ((Rep.intI .i64 u31) :) rfl rfl (fun cs57 hlcs57 o58 va59 => ?_)
    refine .reval 1 hlcs57 rfl (.reval 17 hlcs57 rfl (.reval 20 hlcs57 rfl (.draw_end (.prune [(1, _), (12, _), (0, _), (2, _), (10, _), (11, _)] ⟨rfl, rfl, rfl, rfl, rfl, rfl, trivial⟩ (.inBlock (.region rfl (.q .ro (.addw rfl rfl) rfl (.mv rfl rfl (.re ?_)))))))))
    exact .arr (hb10 ((i11 + 1), xs21, u35, cs57) ⟨o58, va59, (hlcs57.trans hl17), (drop_succ g18), r36⟩ (Nat.lt_succ_self _)) ⟨rfl, (congrArg (fun z => some (Value.int .i64 z)) (idx_wrap (SlR.len s3) g18)), rfl, rfl, rfl, rfl, trivial⟩
  ·refine .callS (b1 := []) (b2 := []) (s1 := []) [_, _, _] [] .d1 rfl rfl Tryz.call77 rfl rfl (residue_Field_Mul_c (G := G) mcs  hu29) rfl (fun v60 bo so h61 => ?_)
   obtain ⟨rfl, rfl, rfl⟩ := h61
   refine .same (bl' := []) (sl' := [_]) rfl rfl rfl (.clsL (HpLe.refl _) (pick_mem [] rfl) ?_)
   obtain ⟨c62, p63, h65⟩ := OL.get o15 hu27
   obtain rfl := h65
   refine .q .d1 (.idxV 0 rfl va16 o15 rfl rfl hu27 sl22 ty3.sz rfl rfl) rfl (.clsL (HpLe.refl _) (pick_mem [] rfl) (.q .d1 (.loadV 0 0 rfl va16 o15 rfl rfl hu27 p63 rfl (.inl ⟨rfl, rfl⟩) ty3 rfl) rfl (.clsL (HpLe.refl _) (pick_mem [] rfl) ?_)))
   refine .callS (b1 := []) (b2 := []) (s1 := []) [_, _, _] [] .d1 rfl rfl Tryz.call80 rfl rfl (residue_Field_Add_c (G := G) mcs  hu31) rfl (fun v66 bo so h68 => ?_)
   obtain ⟨rfl, rfl, rfl⟩ := h68
   refine .same (bl' := []) (sl' := [_]) rfl rfl rfl (.clsL (HpLe.refl _) (pick_mem [] rfl) ?_)
   obtain ⟨c69, p70, h71⟩ := OL.get o15 hu33
   obtain rfl := h71
   refine .q .d2 (.idxV 0 rfl va16 o15 rfl rfl hu33 sl22 ty3.sz rfl rfl) rfl ?_
   refine .storeV 0 0 (Q := ri) .d2 rfl va16 rfl rfl o15 hu35 rfl (.inl ⟨rfl, rfl⟩) rfl ty3 p70 ((Rep.intI .i64 u31) :) rfl rfl (fun cs72 hlcs72 o73 va74 => ?_)
   refine .reval 1 hlcs72 rfl (.reval 17 hlcs72 rfl (.reval 20 hlcs72 rfl (.draw_end (.prune [(1, _), (12, _), (0, _), (2, _), (10, _), (11, _)] ⟨rfl, rfl, rfl, rfl, rfl, rfl, trivial⟩ (.inBlock (.region rfl (.q .ro (.addw rfl rfl) rfl (.mv rfl rfl (.re ?_)))))))))
   exact .arr (hb10 ((i11 + 1), xs21, u35, cs72) ⟨o73, va74, (hlcs72.trans hl17), (drop_succ g18), r36⟩ (Nat.lt_succ_self _)) ⟨rfl, (congrArg (fun z => some (Value.int .i64 z)) (idx_wrap (SlR.len s3) g18)), rfl, rfl, rfl, rfl, trivial⟩
theorem residue_Of_c {Fs : List Hp} {G : Hp} {x0_0 : Int} {r : (Int × Bool)} (hG : G ∈ Fs)  (h : residue_Of x0_0 = some r) : RetS Tryz.prog 72 #[.agg #[.int .i64 x0_0]] Fs [] [] (fun v bo so => v = .tuple #[.int .i64 r.1, .bool r.2] ∧ bo = [] ∧ so = []) := by
 unfold residue_Of at h
 try dsimp only at h
 refine RetS.of (vs := [_]) Tryz.func72 rfl Tryz.ntmps72 [(0, _)] ⟨rfl, trivial⟩ rfl hG fun w0 S0 hS0 B0 => ?_
 refine .seq (.region rfl ?_)
 refine .box [_] .ro rfl rfl rfl (fun b1 hb1 => ?_)
 refine .av rfl rfl (.av rfl rfl (.re (.seq (.seq (.region rfl (.q .ro (.fieldAddr 0 rfl fl45_0 ty3.sz rfl) rfl (.q .ro (.load_own 0 rfl rfl ty3 rfl) rfl (.q .ro (.lss rfl rfl) rfl (.mv rfl rfl ?_)))))))))
 refine .cutR 4 (β := Unit) (fun y => [(12, .bool (decide ((x0_0 < 2) ∨ (65521 < x0_0))))]) [(1, _)] (fun y => G :: Fs) (fun y => []) [_] (fun y => []) [] (fun y => True) ⟨rfl, trivial⟩ [0] rfl [] rfl ?_ ?_
 ·rintro _ _
  refine .prune [(12, .bool (decide ((x0_0 < 2) ∨ (65521 < x0_0)))), (1, _)] ⟨rfl, rfl, trivial⟩ (.same (bl' := [_]) (sl' := []) (Fs' := G :: Fs) rfl rfl rfl (.re ?_))
  refine .cond_dec rfl (fun c6 => ?_) (fun c6 => ?_)
  ·have r7 := ifT h c6; clear h
   refine .seq (.region rfl (.av rfl rfl (.av rfl rfl (.re ?_))))
   cases r7
   refine .drop 1 0 [] _ rfl rfl ?_
   refine .retS (.inr ⟨_, rfl⟩) [.tmp 2, .tmp 3] [_, _] rfl Tryz.func72 Tryz.results72 ⟨RV.tmp rfl, RV.tmp rfl, trivial⟩ mcm ⟨rfl, rfl, rfl⟩
  ·have r8 := ifF h c6; clear h
   refine .skip (.seq (.seq (.region rfl (.av rfl rfl (.re ?_)))))
   refine .cutB (β := Int) (fun y => []) [(1, _)] (fun y => G :: Fs) (fun y => [(b1, .cells #[.int .i64 y] 45 (0, 0))]) [] (fun y => []) [] (fun y => residue_Of_J1 y = some r) ⟨rfl, trivial⟩ [] rfl [] rfl ?_ ?_
   ·intro v36 hI
    have r38 := hI; clear hI
    refine .prune [(1, _)] ⟨rfl, trivial⟩ (.same (bl' := [(b1, .cells #[.int .i64 v36] 45 (0, 0))]) (sl' := []) (Fs' := G :: Fs) rfl rfl rfl ?_)
    unfold residue_Of_J1 at r38
    try dsimp only at r38
    refine .seq (.region rfl (.q .ro (.fieldAddr 0 rfl fl45_0 ty3.sz rfl) rfl (.q .ro (.load_own 0 rfl rfl ty3 rfl) rfl (.av rfl rfl (.av rfl rfl (.re ?_))))))
    cases r38
    refine .drop 1 0 [] _ rfl rfl ?_
    refine .retS (.inr ⟨_, rfl⟩) [.tmp 2, .tmp 3] [_, _] rfl Tryz.func72 Tryz.results72 ⟨RV.tmp rfl, RV.tmp rfl, trivial⟩ mcm ⟨rfl, rfl, rfl⟩
   ·intro hb39
    refine .block ?_
    refine .loop2 (α := Nat × Int) (fun y => [(4, .int .i64 y.2)]) [(1, _)] (fun y => []) (fun y => []) [_] (fun y => []) [] (fun y => residue_Of_L2 residue_Of_J1 x0_0 y.1 y.2 = some r) (fun y => y.1) (big, 2) r8 ⟨rfl, rfl, trivial⟩ rfl rfl rfl (fun y hI hb55 => ?_)
    obtain ⟨n51, v53⟩ := y
    have r54 := hI; clear hI
    try dsimp only at r54
    refine .prune [(4, .int .i64 v53), (1, _)] ⟨rfl, rfl, trivial⟩ (.same (bl' := [_]) (sl' := []) (Fs' := G :: Fs) rfl rfl rfl ?_)
    obtain ⟨m58, rfl⟩ : ∃ m, n51 = m + 1 := by cases n51 with | zero => exact absurd (show (none : Option _) = some _ from r54) (by simp) | succ m => exact ⟨m, rfl⟩
    have r57 : residue_Of_B2 residue_Of_J1 x0_0 (residue_Of_L2 residue_Of_J1 x0_0 m58) v53 = some r := r54; clear r54; unfold residue_Of_B2 at r57; try dsimp only at r57
    refine .seq (.seq (.region rfl (.mv rfl rfl (.mv rfl rfl (.q .ro (.mulw rfl rfl) rfl (.q .ro (.fieldAddr 0 rfl fl45_0 ty3.sz rfl) rfl (.q .ro (.load_own 0 rfl rfl ty3 rfl) rfl (.q .ro (.leq rfl rfl) rfl (.re ?_)))))))))
    refine .cond_dec rfl (fun c59 => ?_) (fun c59 => ?_)
    ·have r60 := ifT r57 c59; clear r57
     refine .skip (.seq (.block (.seq (.region rfl (.q .ro (.fieldAddr 0 rfl fl45_0 ty3.sz rfl) rfl (.q .ro (.load_own 0 rfl rfl ty3 rfl) rfl (.mv rfl rfl ?_)))))))
     obtain ⟨u61, hu61, r62⟩ := bind_some r60
     refine .q .ro (.remt rfl rfl (nz_some hu61)) rfl (.q .ro (.eql rfl rfl) rfl (.re ?_))
     refine .cond_dec rfl (fun c63 => ?_) (fun c63 => ?_)
     ·have r64 := ifT r62 c63; clear r62
      refine .seq (.region rfl (.av rfl rfl (.av rfl rfl (.re (.prune [(2, _), (3, _)] ⟨rfl, rfl, trivial⟩ ?_)))))
      cases r64
      refine .drop 1 0 [] _ rfl rfl ?_
      refine .retS (.inr ⟨_, rfl⟩) [.tmp 2, .tmp 3] [_, _] rfl Tryz.func72 Tryz.results72 ⟨RV.tmp rfl, RV.tmp rfl, trivial⟩ mcm ⟨rfl, rfl, rfl⟩
     ·have r65 := ifF r62 c63; clear r62
      refine .skip (.inBlock (.region rfl (.mv rfl rfl (.q .ro (.addw rfl rfl) rfl (.av rfl rfl (.re (.prune [(4, _), (1, _)] ⟨rfl, rfl, trivial⟩ ?_)))))))
      exact .arr (hb55 (m58, (w64 (v53 + 1))) r65 (Nat.lt_succ_self _)) ⟨rfl, rfl, trivial⟩
    ·have r66 := ifF r57 c59; clear r57
     refine .exit rfl ?_
     exact .arr (hb39 (x0_0) r66) ⟨rfl, trivial⟩
 ·intro hb3
  refine .split 8 rfl (fun c2 => ?_) (fun c2 => ?_)
  ·refine .g_off rfl rfl rfl ?_
   refine .g_off rfl rfl rfl (.g_off rfl rfl rfl (.q .ro (.pick_t rfl rfl) rfl ?_))
   exact .arr (hb3 () trivial) ⟨dor_t c2, rfl, trivial⟩
  ·refine .g_on rfl ?_
   refine .q .ro (.fieldAddr 0 rfl fl45_0 ty3.sz rfl) rfl (.g_on rfl (.q .ro (.load_own 0 rfl rfl ty3 rfl) rfl (.g_on rfl (.q .ro (.gtr rfl rfl) rfl (.q .ro (.pick_f rfl rfl) rfl ?_)))))
   exact .arr (hb3 () trivial) ⟨dor_f c2, rfl, trivial⟩
theorem slices_IndexFunc_Lintint_c {Fs : List Hp} {G : Hp} {a0 : Option Addr} {k0 : Nat} {x0 : List Int} {F1 : FuncId} {c1 : List Value} {x1 : Int → Option Bool} {r : Int} (hG : G ∈ Fs) (s0 : SlR ri G a0 k0 x0) (hc1 : ∀ args w, (callFunc F1 args).run Tryz.prog w = .ok (.enter F1 args) w) (hf1 : ∀ (Fs' : List Hp) (G1 : Hp), HpLe G G1 → G1 ∈ Fs' → ∀ (y0 : Int) (r : Bool), x1 y0 = some r → RetS Tryz.prog F1 (([.int .i64 y0] : List Value) ++ c1).toArray Fs' [] [] (fun v bo so => v = .bool r ∧ bo = [] ∧ so = [])) (h : slices_IndexFunc_Lintint x0 x1 = some r) : RetS Tryz.prog 143 #[.slice a0 x0.length k0, .func (.func F1) #[] c1.toArray] Fs [] [] (fun v bo so => v = .int .i64 r ∧ bo = [] ∧ so = []) := by
 unfold slices_IndexFunc_Lintint at h
 try dsimp only at h
 refine RetS.of (vs := [_, _]) Tryz.func143 rfl Tryz.ntmps143 [(0, _), (1, _)] ⟨rfl, rfl, trivial⟩ rfl hG fun w0 S0 hS0 B0 => ?_
 refine .seq (.region rfl (.av rfl rfl (.re (.seq (.seq (.region rfl (.mv rfl rfl (.q .ro (.len_sl rfl rfl sl22) rfl (.mv rfl rfl (.re (.block ?_)))))))))))
 refine .loop2 (α := Nat × List Int) (fun y => [(8, .int .i64 (y.1 : Int))]) [(0, _), (1, _), (7, _)] (fun y => []) (fun y => []) [] (fun y => []) [] (fun y => List.drop y.1 x0 = y.2 ∧ slices_IndexFunc_Lintint_L1 x1 y.2 y.1  = some r) (fun y => y.2.length) (0, x0) ⟨rfl, h⟩ ⟨rfl, rfl, rfl, rfl, trivial⟩ rfl rfl rfl (fun y hI hb23 => ?_)
 obtain ⟨i19, w20⟩ := y
 obtain ⟨g21, r22⟩ := hI
 try dsimp only at g21 r22
 refine .prune [(8, .int .i64 (i19 : Int)), (0, _), (1, _), (7, _)] ⟨rfl, rfl, rfl, rfl, trivial⟩ (.same (bl' := []) (sl' := []) (Fs' := G :: Fs) rfl rfl rfl ?_)
 cases w20 with
 | nil =>
  rw [slices_IndexFunc_Lintint_L1] at r22; try dsimp only at r22
  refine .seq (.region rfl (.q .ro (.lss rfl rfl) rfl (.re (.seq ?_))))
  refine .cond_dec rfl (fun c => absurd c (drop_nil g21)) (fun _ => ?_)
  refine .exit rfl (.seq (.region rfl (.av rfl rfl (.re ?_))))
  cases r22
  refine .retS (.inr ⟨_, rfl⟩) [.tmp 4] [_] rfl Tryz.func143 Tryz.results143 ⟨RV.tmp rfl, trivial⟩ mcm ⟨rfl, rfl, rfl⟩
 | cons x28 xs29 =>
  have r27 : slices_IndexFunc_Lintint_B1 x1 (slices_IndexFunc_Lintint_L1 x1 xs29 (i19 + 1)) x28 i19  = some r := r22; clear r22; unfold slices_IndexFunc_Lintint_B1 at r27; try dsimp only at r27
  refine .seq (.region rfl (.q .ro (.lss rfl rfl) rfl (.re (.seq ?_))))
  refine .cond_dec rfl (fun _ => ?_) (fun c => absurd (drop_lt g21) c)
  refine .skip (.seq (.block (.seq (.region rfl (.mv rfl rfl (.av rfl rfl (.re (.seq (.region rfl (.mv rfl rfl (.mv rfl rfl (.mv rfl rfl ?_))))))))))))
  obtain ⟨c30, p31, h32⟩ := SlR.get s0 (drop_idx g21)
  obtain rfl := h32
  refine .q .ro (.idxR s0 rfl rfl (drop_idx g21) sl22 ty3.sz) rfl (.q .ro (.load_rp p31 mcs rfl ty3 rfl) rfl ?_)
  obtain ⟨u33, hu33, r34⟩ := bind_some r27
  refine .callS (b1 := []) (b2 := []) (s1 := []) [_] c1 .ro rfl rfl hc1 rfl rfl (hf1 _ G (HpLe.refl _) mcs _ _  hu33) rfl (fun v36 bo so h35 => ?_)
  obtain ⟨rfl, rfl, rfl⟩ := h35
  refine .same (bl' := []) (sl' := []) rfl rfl rfl (.re ?_)
  refine .cond rfl (fun c37 => ?_) (fun c37 => ?_)
  ·have r38 := ifT r34 c37; clear r34
   refine .seq (.region rfl (.mv rfl rfl (.av rfl rfl (.re (.prune [(4, _)] ⟨rfl, trivial⟩ ?_)))))
   cases r38
   refine .retS (.inr ⟨_, rfl⟩) [.tmp 4] [_] rfl Tryz.func143 Tryz.results143 ⟨RV.tmp rfl, trivial⟩ mcm ⟨rfl, rfl, rfl⟩
  ·have r39 := ifBF r34 c37; clear r34
   refine .skip (.inBlock (.region rfl (.q .ro (.addw rfl rfl) rfl (.mv rfl rfl (.re ?_)))))
   exact .arr (hb23 ((i19 + 1), xs29) ⟨(drop_succ g21), r39⟩ (Nat.lt_succ_self _)) ⟨(congrArg (fun z => some (Value.int .i64 z)) (idx_wrap (SlR.len s0) g21)), rfl, rfl, rfl, trivial⟩
theorem slices_ContainsFunc_Lintint_c {Fs : List Hp} {G : Hp} {a0 : Option Addr} {k0 : Nat} {x0 : List Int} {F1 : FuncId} {c1 : List Value} {x1 : Int → Option Bool} {r : Bool} (hG : G ∈ Fs) (s0 : SlR ri G a0 k0 x0) (hc1 : ∀ args w, (callFunc F1 args).run Tryz.prog w = .ok (.enter F1 args) w) (hf1 : ∀ (Fs' : List Hp) (G1 : Hp), HpLe G G1 → G1 ∈ Fs' → ∀ (y0 : Int) (r : Bool), x1 y0 = some r → RetS Tryz.prog F1 (([.int .i64 y0] : List Value) ++ c1).toArray Fs' [] [] (fun v bo so => v = .bool r ∧ bo = [] ∧ so = [])) (h : slices_ContainsFunc_Lintint x0 x1 = some r) : RetS Tryz.prog 109 #[.slice a0 x0.length k0, .func (.func F1) #[] c1.toArray] Fs [] [] (fun v bo so => v = .bool r ∧ bo = [] ∧ so = []) := by
 unfold slices_ContainsFunc_Lintint at h
 try dsimp only at h
 refine RetS.of (vs := [_, _]) Tryz.func109 rfl Tryz.ntmps109 [(0, _), (1, _)] ⟨rfl, rfl, trivial⟩ rfl hG fun w0 S0 hS0 B0 => ?_
 refine .seq (.region rfl (.av rfl rfl (.re (.seq (.region rfl (.mv rfl rfl (.mv rfl rfl ?_)))))))
 obtain ⟨u1, hu1, r2⟩ := bind_some h
 refine .callS (b1 := []) (b2 := []) (s1 := []) [_, _] [] .ro rfl rfl Tryz.call143 rfl rfl (slices_IndexFunc_Lintint_c (G := G) mcs s0 hc1 (fun Fs' G1 hle hm => hf1 Fs' G1 (HpLe.trans (HpLe.refl _) hle) hm) hu1) rfl (fun v4 bo so h3 => ?_)
 obtain ⟨rfl, rfl, rfl⟩ := h3
 refine .same (bl' := []) (sl' := []) rfl rfl rfl (.q .ro (.geq rfl rfl) rfl (.av rfl rfl (.re ?_)))
 cases r2
 refine .retS (.inr ⟨_, rfl⟩) [.tmp 4] [_] rfl Tryz.func109 Tryz.results109 ⟨RV.tmp rfl, trivial⟩ mcm ⟨rfl, rfl, rfl⟩
theorem residue_Field_Has_c {Fs : List Hp} {G : Hp} {x0 : Int} {x1 : Int} {r : Bool} (hG : G ∈ Fs)  (h : residue_Field_Has x0 x1 = some r) : RetS Tryz.prog 126 #[.int .i64 x0, .int .i64 x1] Fs [] [] (fun v bo so => v = .bool r ∧ bo = [] ∧ so = []) := by
 unfold residue_Field_Has at h
 try dsimp only at h
 refine RetS.of (vs := [_, _]) Tryz.func126 rfl Tryz.ntmps126 [(0, _), (1, _)] ⟨rfl, rfl, trivial⟩ rfl hG fun w0 S0 hS0 B0 => ?_
 refine .seq (.region rfl (.av rfl rfl (.re (.seq (.region rfl (.mv rfl rfl (.q .ro (.geq rfl rfl) rfl (.mv rfl rfl ?_))))))))
 refine .cutR 4 (β := Unit) (fun y => [(11, .bool (decide ((0 ≤ x1) ∧ (x1 < x0))))]) [(4, _)] (fun y => G :: Fs) (fun y => []) [] (fun y => []) [] (fun y => True) ⟨rfl, trivial⟩ [] rfl [] rfl ?_ ?_
 ·rintro _ _
  refine .prune [(11, .bool (decide ((0 ≤ x1) ∧ (x1 < x0)))), (4, _)] ⟨rfl, rfl, trivial⟩ (.same (bl' := []) (sl' := []) (Fs' := G :: Fs) rfl rfl rfl (.av rfl rfl (.re ?_)))
  cases h
  refine .retS (.inr ⟨_, rfl⟩) [.tmp 4] [_] rfl Tryz.func126 Tryz.results126 ⟨RV.tmp rfl, trivial⟩ mcm ⟨rfl, rfl, rfl⟩
 ·intro hb2
  refine .split 7 rfl (fun c1 => ?_) (fun c1 => ?_)
  ·refine .g_on rfl ?_
   refine .mv rfl rfl (.g_on rfl (.mv rfl rfl (.g_on rfl (.q .ro (.lss rfl rfl) rfl (.q .ro (.pick_t rfl rfl) rfl ?_)))))
   exact .arr (hb2 () trivial) ⟨dand_t c1, rfl, trivial⟩
  ·refine .g_off rfl rfl rfl ?_
   refine .g_off rfl rfl rfl (.g_off rfl rfl rfl (.q .ro (.pick_f rfl rfl) rfl ?_))
   exact .arr (hb2 () trivial) ⟨dand_f c1, rfl, trivial⟩
theorem residue_Field_All_f1_c {Fs : List Hp} {G : Hp} {x0 : Int} {p1 : Value} {x1 : Int} {r : Bool} (hG : G ∈ Fs) (hp1 : Rp G p1 [.int .i64 x1]) (h : residue_Field_All_f1 x0 x1 = some r) : RetS Tryz.prog 125 #[.int .i64 x0, p1] Fs [] [] (fun v bo so => v = .bool r ∧ bo = [] ∧ so = []) := by
 unfold residue_Field_All_f1 at h
 try dsimp only at h
 refine RetS.of (vs := [_, _]) Tryz.func125 rfl Tryz.ntmps125 [(0, _), (1, _)] ⟨rfl, rfl, trivial⟩ rfl hG fun w0 S0 hS0 B0 => ?_
 refine .seq (.region rfl (.av rfl rfl (.re (.seq (.region rfl (.q .ro (.load_rp hp1 mcs rfl ty140 rfl) rfl (.mv rfl rfl ?_)))))))
 obtain ⟨u1, hu1, r2⟩ := bind_some h
 refine .callS (b1 := []) (b2 := []) (s1 := []) [_, _] [] .ro rfl rfl Tryz.call126 rfl rfl (residue_Field_Has_c (G := G) mcs  hu1) rfl (fun v4 bo so h3 => ?_)
 obtain ⟨rfl, rfl, rfl⟩ := h3
 refine .same (bl' := []) (sl' := []) rfl rfl rfl (.q .ro (.not rfl) rfl (.av rfl rfl (.re ?_)))
 cases r2
 refine .retS (.inr ⟨_, rfl⟩) [.tmp 3] [_] rfl Tryz.func125 Tryz.results125 ⟨RV.tmp rfl, trivial⟩ mcm ⟨rfl, rfl, rfl⟩
theorem residue_Field_All_c {Fs : List Hp} {G : Hp} {x0 : Int} {a1 : Option Addr} {k1 : Nat} {x1 : List Int} {r : Bool} (hG : G ∈ Fs) (s1 : SlR ri G a1 k1 x1) (h : residue_Field_All x0 x1 = some r) : RetS Tryz.prog 73 #[.int .i64 x0, .slice a1 x1.length k1] Fs [] [] (fun v bo so => v = .bool r ∧ bo = [] ∧ so = []) := by
 unfold residue_Field_All at h
 try dsimp only at h
 refine RetS.of (vs := [_, _]) Tryz.func73 rfl Tryz.ntmps73 [(0, _), (1, _)] ⟨rfl, rfl, trivial⟩ rfl hG fun w0 S0 hS0 B0 => ?_
 refine .seq (.region rfl ?_)
 refine .box [_] .ro rfl rfl rfl (fun b1 hb1 => ?_)
 refine .av rfl rfl (.re (.seq (.region rfl (.mv rfl rfl (.q .ro (.makeFunc (vf := []) (vc := [_]) rfl rfl) rfl ?_)))))
 refine .freezeBR 0 rfl [] rfl B0 (fun G2 e3 B4 p5 => ?_)
 obtain ⟨u7, hu7, r8⟩ := bind_some h
 refine .callS (b1 := []) (b2 := []) (s1 := []) [_, _] [] .ro rfl rfl Tryz.call109 rfl rfl (slices_ContainsFunc_Lintint_c (G := G2) mcs (SlR.mono e3 s1) Tryz.call125 (fun Fs' G1 hle hm y0 r  hr => residue_Field_All_f1_c (G := G1) hm  (Rp.mono hle p5) hr) hu7) rfl (fun v10 bo so h9 => ?_)
 obtain ⟨rfl, rfl, rfl⟩ := h9
 refine .same (bl' := []) (sl' := []) rfl rfl rfl (.q .ro (.not rfl) rfl (.av rfl rfl (.re ?_)))
 cases r8
 refine .retS (.inr ⟨_, rfl⟩) [.tmp 4] [_] rfl Tryz.func73 Tryz.results73 ⟨RV.tmp rfl, trivial⟩ mcm ⟨rfl, rfl, rfl⟩
theorem vector_Combine_c {Fs : List Hp} {G : Hp} {x0_0 : Int} {a1 : Option Addr} {k1 : Nat} {x1 : List Int} {a2 : Option Addr} {k2 : Nat} {x2 : List (List Int)} {x3 : Int} {r : ((List Int) × Int)} (hG : G ∈ Fs) (s1 : SlR ri G a1 k1 x1) (s2 : SlR (Rep.sl ri) G a2 k2 x2) (h : vector_Combine x0_0 x1 x2 x3 = some r) : RetS Tryz.prog 71 #[.agg #[.int .i64 x0_0], .slice a1 x1.length k1, .slice a2 x2.length k2, .int .i64 x3] Fs [] [] (fun v bo so => ∃ (oa0 : Option Addr) (ok0 : Nat) (oc0 : List Value), v = .tuple #[.slice oa0 r.1.length ok0, .int .i64 r.2] ∧ bo = [] ∧ so = [.s (.slice oa0 r.1.length ok0) 3 1 r.1.length oc0] ∧ OL ri G oc0 r.1) := by
 unfold vector_Combine at h
 try dsimp only at h
 refine RetS.of (vs := [_, _, _, _]) Tryz.func71 rfl Tryz.ntmps71 [(0, _), (1, _), (2, _), (3, _)] ⟨rfl, rfl, rfl, rfl, trivial⟩ rfl hG fun w0 S0 hS0 B0 => ?_
 refine .seq (.region rfl ?_)
 refine .box [_] .ro rfl rfl rfl (fun b1 hb1 => ?_)
 refine .av rfl rfl (.av rfl rfl (.re (.seq (.region rfl (.q .ro (.load_own_a 0 [_] rfl rfl ty45 rfl) rfl ?_)))))
 obtain ⟨u2, hu2, r3⟩ := bind_some h
 refine .callS (b1 := []) (b2 := [_]) (s1 := []) [_] [] .ro rfl rfl Tryz.call72 rfl rfl (residue_Of_c (G := G) mcs  hu2) rfl (fun v5 bo so h4 => ?_)
 obtain ⟨rfl, rfl, rfl⟩ := h4
 refine .same (bl' := [_]) (sl' := []) rfl rfl rfl (.mv rfl rfl (.q .ro (.extract rfl rfl) rfl (.q .ro (.extract rfl rfl) rfl (.av rfl rfl (.av rfl rfl (.re (.seq (.seq (.region rfl (.mv rfl rfl (.q .ro (.not rfl) rfl (.re ?_))))))))))))
 refine .cond rfl (fun c6 => ?_) (fun c6 => ?_)
 ·have r7 := ifT r3 c6; clear r3
  refine .seq (.region rfl (.av rfl rfl (.av rfl rfl (.re (.prune [(8, _), (9, _)] ⟨rfl, rfl, trivial⟩ (.own_nil 3 1 ?_))))))
  cases r7
  refine .drop 1 0 [] _ rfl rfl ?_
  refine .retS (.inr ⟨_, rfl⟩) [.tmp 8, .tmp 9] [_, _] rfl Tryz.func71 Tryz.results71 ⟨RV.tmp rfl, RV.tmp rfl, trivial⟩ mcm ⟨none, 0, [], rfl, rfl, rfl, (OL.nil (Rp' := ri))⟩
 ·have r9 := ifBF r3 c6; clear r3
  refine .skip (.seq (.seq (.region rfl (.mv rfl rfl (.q .ro (.lss rfl rfl) rfl (.mv rfl rfl ?_))))))
  refine .cutR 3 (β := Unit) (fun y => [(30, .bool (decide ((x3 < 0) ∨ (64 < x3))))]) [(1, _), (2, _), (3, _), (10, _)] (fun y => G :: Fs) (fun y => []) [_] (fun y => []) [] (fun y => True) ⟨rfl, rfl, rfl, rfl, trivial⟩ [0] rfl [] rfl ?_ ?_
  ·rintro _ _
   refine .prune [(30, .bool (decide ((x3 < 0) ∨ (64 < x3)))), (1, _), (2, _), (3, _), (10, _)] ⟨rfl, rfl, rfl, rfl, rfl, trivial⟩ (.same (bl' := [_]) (sl' := []) (Fs' := G :: Fs) rfl rfl rfl (.re ?_))
   refine .cond_dec rfl (fun c14 => ?_) (fun c14 => ?_)
   ·have r15 := ifT r9 c14; clear r9
    refine .seq (.region rfl (.av rfl rfl (.av rfl rfl (.re (.own_nil 3 1 ?_)))))
    cases r15
    refine .drop 1 0 [] _ rfl rfl ?_
    refine .retS (.inr ⟨_, rfl⟩) [.tmp 8, .tmp 9] [_, _] rfl Tryz.func71 Tryz.results71 ⟨RV.tmp rfl, RV.tmp rfl, trivial⟩ mcm ⟨none, 0, [], rfl, rfl, rfl, (OL.nil (Rp' := ri))⟩
   ·have r17 := ifF r9 c14; clear r9
    refine .skip (.seq (.seq (.region rfl (.mv rfl rfl (.q .ro (.len_sl rfl rfl sl22) rfl (.mv rfl rfl (.q .ro (.len_sl rfl rfl sl51) rfl (.q .ro (.neq rfl rfl) rfl (.re ?_)))))))))
    refine .cond_dec rfl (fun c18 => ?_) (fun c18 => ?_)
    ·have r19 := ifT r17 c18; clear r17
     refine .seq (.region rfl (.av rfl rfl (.av rfl rfl (.re (.own_nil 3 1 ?_)))))
     cases r19
     refine .drop 1 0 [] _ rfl rfl ?_
     refine .retS (.inr ⟨_, rfl⟩) [.tmp 8, .tmp 9] [_, _] rfl Tryz.func71 Tryz.results71 ⟨RV.tmp rfl, RV.tmp rfl, trivial⟩ mcm ⟨none, 0, [], rfl, rfl, rfl, (OL.nil (Rp' := ri))⟩
    ·have r21 := ifF r17 c18; clear r17
     refine .skip (.seq (.region rfl (.mv rfl rfl (.mv rfl rfl ?_))))
     obtain ⟨u22, hu22, r23⟩ := bind_some r21
     refine .callS (b1 := []) (b2 := [_]) (s1 := []) [_, _] [] .ro rfl rfl Tryz.call73 rfl rfl (residue_Field_All_c (G := G) mcs s1 hu22) rfl (fun v25 bo so h24 => ?_)
     obtain ⟨rfl, rfl, rfl⟩ := h24
     refine .same (bl' := [_]) (sl' := []) rfl rfl rfl (.av rfl rfl (.re (.seq (.seq (.region rfl (.mv rfl rfl (.q .ro (.len_sl rfl rfl sl51) rfl (.mv rfl rfl (.re ?_)))))))))
     refine .cutB (β := Bool × Int) (fun y => [(12, .bool y.1)]) [(1, _), (2, _), (3, _), (10, _)] (fun y => G :: Fs) (fun y => [(b1, .cells #[.int .i64 y.2] 45 (0, 0))]) [] (fun y => []) [] (fun y => (vector_Combine_J2 x1 x2 x3 u2.1) y.1 y.2 = some r) ⟨rfl, rfl, rfl, rfl, trivial⟩ [] rfl [] rfl ?_ ?_
     ·intro y hI
      obtain ⟨v12, v13⟩ := y
      have r16 := hI; clear hI
      try dsimp only at r16
      refine .prune [(12, .bool v12), (1, _), (2, _), (3, _), (10, _)] ⟨rfl, rfl, rfl, rfl, rfl, trivial⟩ (.same (bl' := [(b1, .cells #[.int .i64 v13] 45 (0, 0))]) (sl' := []) (Fs' := G :: Fs) rfl rfl rfl ?_)
      unfold vector_Combine_J2 at r16
      try dsimp only at r16
      refine .seq (.seq (.region rfl (.mv rfl rfl (.q .ro (.not rfl) rfl (.re ?_)))))
      refine .cond rfl (fun c20 => ?_) (fun c20 => ?_)
      ·have r26 := ifT r16 c20; clear r16
       refine .seq (.region rfl (.av rfl rfl (.av rfl rfl (.re (.own_nil 3 1 ?_)))))
       cases r26
       refine .drop 1 0 [] _ rfl rfl ?_
       refine .retS (.inr ⟨_, rfl⟩) [.tmp 8, .tmp 9] [_, _] rfl Tryz.func71 Tryz.results71 ⟨RV.tmp rfl, RV.tmp rfl, trivial⟩ mcm ⟨none, 0, [], rfl, rfl, rfl, (OL.nil (Rp' := ri))⟩
      ·have r27 := ifBF r16 c20; clear r16
       refine .skip (.seq (.region rfl (.mv rfl rfl ?_)))
       obtain ⟨u28, hu28, r29⟩ := bind_some r27
       refine .makeR (G := G) (Q := ri) .ro sl22 ty3 rfl rfl rfl ((Rep.intI .i64 0) :) rfl rfl hu28 rfl rfl (fun b30 cs31 hb30 o32 => ?_)
       refine .av rfl rfl (.re (.seq (.seq (.region rfl (.mv rfl rfl (.q .ro (.len_sl rfl rfl sl51) rfl (.mv rfl rfl (.re (.block ?_)))))))))
       refine .loop2 (α := Nat × List (List Int) × List Int × Option Addr × Nat × List Value) (fun y => [(15, .slice y.2.2.2.1 y.2.2.1.length y.2.2.2.2.1), (62, .int .i64 (y.1 : Int))]) [(1, _), (10, _), (60, _), (61, _)] (fun y => []) (fun y => []) [_] (fun y => [.s (.slice y.2.2.2.1 y.2.2.1.length y.2.2.2.2.1) 3 1 y.2.2.1.length y.2.2.2.2.2]) [] (fun y => OL ri G y.2.2.2.2.2 y.2.2.1 ∧ List.drop y.1 x2 = y.2.1 ∧ vector_Combine_L1 x1 u2.1 y.2.1 y.1 y.2.2.1 = some r) (fun y => y.2.1.length) (0, x2, u28, (some ⟨b30, 0, none⟩), u28.length, cs31) ⟨o32, rfl, r29⟩ ⟨rfl, rfl, rfl, rfl, rfl, rfl, trivial⟩ rfl rfl rfl (fun y hI hb33 => ?_)
       obtain ⟨i34, w35, v36, a37, k38, cs39⟩ := y
       obtain ⟨o40, g41, r42⟩ := hI
       try dsimp only at o40 g41 r42
       refine .prune [(15, .slice a37 v36.length k38), (62, .int .i64 (i34 : Int)), (1, _), (10, _), (60, _), (61, _)] ⟨rfl, rfl, rfl, rfl, rfl, rfl, trivial⟩ (.same (bl' := [_]) (sl' := [.s (.slice a37 v36.length k38) 3 1 v36.length cs39]) (Fs' := G :: Fs) rfl rfl rfl ?_)
       cases w35 with
       | nil =>
        rw [vector_Combine_L1] at r42; try dsimp only at r42
        refine .seq (.region rfl (.q .ro (.lss rfl rfl) rfl (.re (.seq ?_))))
        refine .cond_dec rfl (fun c => absurd c (drop_nil g41)) (fun _ => ?_)
        refine .exit rfl (.seq (.region rfl (.mv rfl rfl (.av rfl rfl (.av rfl rfl (.re ?_))))))
        cases r42
        refine .drop 1 0 [] _ rfl rfl ?_
        refine .retS (.inr ⟨_, rfl⟩) [.tmp 8, .tmp 9] [_, _] rfl Tryz.func71 Tryz.results71 ⟨RV.tmp rfl, RV.tmp rfl, trivial⟩ mcm ⟨a37, k38, cs39, rfl, rfl, rfl, o40⟩
       | cons x43 xs44 =>
        have r46 : vector_Combine_B1 x1 u2.1 (vector_Combine_L1 x1 u2.1 xs44 (i34 + 1)) x43 i34 v36 = some r := r42; clear r42; unfold vector_Combine_B1 at r46; try dsimp only at r46
        refine .seq (.region rfl (.q .ro (.lss rfl rfl) rfl (.re (.seq ?_))))
        refine .cond_dec rfl (fun _ => ?_) (fun c => absurd (drop_lt g41) c)
        refine .skip (.seq (.block (.seq (.region rfl (.mv rfl rfl ?_)))))
        obtain ⟨c47, p48, h49⟩ := SlR.get s2 (drop_idx g41)
        obtain ⟨a50, k52, rfl, s53⟩ := h49
        refine .q .ro (.idxR s2 rfl rfl (drop_idx g41) sl51 ty22.sz) rfl (.q .ro (.load_rp p48 mcs rfl ty22 rfl) rfl (.av rfl rfl (.av rfl rfl (.re (.region rfl (.mv rfl rfl (.mv rfl rfl (.mv rfl rfl (.mv rfl rfl ?_)))))))))
        obtain ⟨u54, hu54, r55⟩ := bind_some r46
        obtain ⟨c56, p57, h58⟩ := SlR.get s1 hu54
        obtain rfl := h58
        refine .q .ro (.idxR s1 rfl rfl hu54 sl22 ty3.sz) rfl (.q .ro (.load_rp p57 mcs rfl ty3 rfl) rfl (.mv rfl rfl ?_))
        refine .toV 0 rfl (fun vb59 po60 va61 vb62 => ?_)
        obtain ⟨u63, hu63, r65⟩ := bind_some r55
        refine .callS (b1 := []) (b2 := [_]) (s1 := [_]) [_, _, _, _] [] .ro rfl rfl Tryz.call67 rfl rfl (residue_Field_AddTimes_c (G := G) mcs va61 o40 s53 hu63) rfl (fun v66 bo so h68 => ?_)
        obtain ⟨cs69, rfl, rfl, rfl, o70, hl74⟩ := h68
        refine .same (bl' := [_]) (sl' := [_]) rfl rfl rfl (.ofV 0 rfl vb62 hl74 o70 rfl (.reval 15 hl74 rfl (.reval 68 hl74 rfl (.re (.prune [(15, _), (62, _), (1, _), (10, _), (60, _), (61, _)] ⟨rfl, rfl, rfl, rfl, rfl, rfl, trivial⟩ (.inBlock (.region rfl (.q .ro (.addw rfl rfl) rfl (.mv rfl rfl (.re ?_))))))))))
        exact .arr (hb33 ((i34 + 1), xs44, u63, a37, k38, cs69) ⟨o70, (drop_succ g41), r65⟩ (Nat.lt_succ_self _)) ⟨rfl, (congrArg (fun z => some (Value.int .i64 z)) (idx_wrap (SlR.len s2) g41)), rfl, rfl, rfl, rfl, trivial⟩
     ·intro hb75
      refine .block ?_
      refine .loop2 (α := Nat × List (List Int) × Bool) (fun y => [(12, .bool y.2.2), (41, .int .i64 (y.1 : Int))]) [(1, _), (2, _), (3, _), (10, _), (39, _), (40, _)] (fun y => []) (fun y => []) [_] (fun y => []) [] (fun y => List.drop y.1 x2 = y.2.1 ∧ vector_Combine_L3 (vector_Combine_J2 x1 x2 x3 u2.1) x3 u2.1 x0_0 y.2.1 y.2.2 = some r) (fun y => y.2.1.length) (0, x2, u22) ⟨rfl, r23⟩ ⟨rfl, rfl, rfl, rfl, rfl, rfl, rfl, rfl, trivial⟩ rfl rfl rfl (fun y hI hb76 => ?_)
      obtain ⟨i77, w78, v79⟩ := y
      obtain ⟨g80, r81⟩ := hI
      try dsimp only at g80 r81
      refine .prune [(12, .bool v79), (41, .int .i64 (i77 : Int)), (1, _), (2, _), (3, _), (10, _), (39, _), (40, _)] ⟨rfl, rfl, rfl, rfl, rfl, rfl, rfl, rfl, trivial⟩ (.same (bl' := [_]) (sl' := []) (Fs' := G :: Fs) rfl rfl rfl ?_)
      cases w78 with
      | nil =>
       rw [vector_Combine_L3] at r81; try dsimp only at r81
       refine .seq (.region rfl (.q .ro (.lss rfl rfl) rfl (.re (.seq ?_))))
       refine .cond_dec rfl (fun c => absurd c (drop_nil g80)) (fun _ => ?_)
       refine .exit rfl ?_
       exact .arr (hb75 (v79, x0_0) r81) ⟨rfl, rfl, rfl, rfl, rfl, trivial⟩
      | cons x82 xs83 =>
       have r84 : vector_Combine_B3 (vector_Combine_J2 x1 x2 x3 u2.1) x3 u2.1 x0_0 (vector_Combine_L3 (vector_Combine_J2 x1 x2 x3 u2.1) x3 u2.1 x0_0 xs83) x82 v79 = some r := r81; clear r81; unfold vector_Combine_B3 at r84; try dsimp only at r84
       refine .seq (.region rfl (.q .ro (.lss rfl rfl) rfl (.re (.seq ?_))))
       refine .cond_dec rfl (fun _ => ?_) (fun c => absurd (drop_lt g80) c)
       refine .skip (.seq (.block (.seq (.region rfl ?_))))
       obtain ⟨c85, p86, h87⟩ := SlR.get s2 (drop_idx g80)
       obtain ⟨a88, k89, rfl, s90⟩ := h87
       refine .q .ro (.idxR s2 rfl rfl (drop_idx g80) sl51 ty22.sz) rfl (.q .ro (.load_rp p86 mcs rfl ty22 rfl) rfl (.av rfl rfl (.re (.seq (.seq (.region rfl (.mv rfl rfl (.q .ro (.len_sl rfl rfl sl22) rfl (.mv rfl rfl (.q .ro (.neq rfl rfl) rfl (.re ?_)))))))))))
       refine .cond_dec rfl (fun c91 => ?_) (fun c91 => ?_)
       ·have r92 := ifT r84 c91; clear r84
        refine .seq (.region rfl (.av rfl rfl (.av rfl rfl (.re (.prune [(8, _), (9, _)] ⟨rfl, rfl, trivial⟩ (.own_nil 3 1 ?_))))))
        cases r92
        refine .drop 1 0 [] _ rfl rfl ?_
        refine .retS (.inr ⟨_, rfl⟩) [.tmp 8, .tmp 9] [_, _] rfl Tryz.func71 Tryz.results71 ⟨RV.tmp rfl, RV.tmp rfl, trivial⟩ mcm ⟨none, 0, [], rfl, rfl, rfl, (OL.nil (Rp' := ri))⟩
       ·have r93 := ifF r84 c91; clear r84
        refine .skip (.region rfl (.mv rfl rfl (.mv rfl rfl ?_)))
        obtain ⟨u94, h95, r96⟩ := bind_some r93
        refine .cutR 4 (β := Unit) (fun y => [(54, .bool u94)]) [(12, _), (41, _), (1, _), (2, _), (3, _), (10, _), (39, _), (40, _)] (fun y => G :: Fs) (fun y => []) [_] (fun y => []) [] (fun y => True) ⟨rfl, rfl, rfl, rfl, rfl, rfl, rfl, rfl, trivial⟩ [0] rfl [] rfl ?_ ?_
        ·rintro _ _
         refine .prune [(54, .bool u94), (12, _), (41, _), (1, _), (2, _), (3, _), (10, _), (39, _), (40, _)] ⟨rfl, rfl, rfl, rfl, rfl, rfl, rfl, rfl, rfl, trivial⟩ (.same (bl' := [_]) (sl' := []) (Fs' := G :: Fs) rfl rfl rfl (.av rfl rfl (.re (.inBlock (.region rfl (.q .ro (.addw rfl rfl) rfl (.mv rfl rfl (.re ?_))))))))
         exact .arr (hb76 ((i77 + 1), xs83, u94) ⟨(drop_succ g80), r96⟩ (Nat.lt_succ_self _)) ⟨rfl, (congrArg (fun z => some (Value.int .i64 z)) (idx_wrap (SlR.len s2) g80)), rfl, rfl, rfl, rfl, rfl, rfl, trivial⟩
        ·intro hb97
         refine .split_b 50 rfl (fun c98 => ?_) (fun c98 => ?_)
         ·have r99 := ifT h95 c98
          refine .g_on rfl (.mv rfl rfl (.g_on rfl (.mv rfl rfl (.g_on rfl ?_))))
          obtain ⟨u100, hu100, r101⟩ := bind_some r99
          refine .callS (b1 := []) (b2 := [_]) (s1 := []) [_, _] [] .ro rfl rfl Tryz.call73 rfl rfl (residue_Field_All_c (G := G) mcs s90 hu100) rfl (fun v102 bo so h103 => ?_)
          obtain ⟨rfl, rfl, rfl⟩ := h103
          refine .same (bl' := [_]) (sl' := []) rfl rfl rfl (.q .ro (.pick_t rfl rfl) rfl ?_)
          exact .arr (hb97 () trivial) ⟨sval r101, rfl, rfl, rfl, rfl, rfl, rfl, rfl, rfl, trivial⟩
         ·have r104 := ifBF h95 c98
          refine .g_off rfl rfl rfl (.g_off rfl rfl rfl (.g_off rfl rfl rfl (.q .ro (.pick_f rfl rfl) rfl ?_)))
          exact .arr (hb97 () trivial) ⟨sval r104, rfl, rfl, rfl, rfl, rfl, rfl, rfl, rfl, trivial⟩
  ·intro hb11
   refine .split 27 rfl (fun c10 => ?_) (fun c10 => ?_)
   ·refine .g_off rfl rfl rfl ?_
    refine .g_off rfl rfl rfl (.q .ro (.pick_t rfl rfl) rfl ?_)
    exact .arr (hb11 () trivial) ⟨dor_t c10, rfl, rfl, rfl, rfl, trivial⟩
   ·refine .g_on rfl ?_
    refine .mv rfl rfl (.g_on rfl (.q .ro (.gtr rfl rfl) rfl (.q .ro (.pick_f rfl rfl) rfl ?_)))
    exact .arr (hb11 () trivial) ⟨dor_f c10, rfl, rfl, rfl, rfl, trivial⟩
theorem parity_Answer_c {Fs : List Hp} {G : Hp} {x0_0 : Int} {x1 : Int} {a2 : Option Addr} {k2 : Nat} {x2 : List (List Int)} {a3 : Option Addr} {k3 : Nat} {x3 : List Int} {r : ((List Int) × Int)} (hG : G ∈ Fs) (s2 : SlR (Rep.sl ri) G a2 k2 x2) (s3 : SlR ri G a3 k3 x3) (h : parity_Answer x0_0 x1 x2 x3 = some r) : RetS Tryz.prog 23 #[.agg #[.int .i64 x0_0], .int .i64 x1, .slice a2 x2.length k2, .slice a3 x3.length k3] Fs [] [] (fun v bo so => ∃ (oa0 : Option Addr) (ok0 : Nat) (oc0 : List Value), v = .tuple #[.slice oa0 r.1.length ok0, .int .i64 r.2] ∧ bo = [] ∧ so = [.s (.slice oa0 r.1.length ok0) 3 1 r.1.length oc0] ∧ OL ri G oc0 r.1) := by
 unfold parity_Answer at h
 try dsimp only at h
 refine RetS.of (vs := [_, _, _, _]) Tryz.func23 rfl Tryz.ntmps23 [(0, _), (1, _), (2, _), (3, _)] ⟨rfl, rfl, rfl, rfl, trivial⟩ rfl hG fun w0 S0 hS0 B0 => ?_
 refine .seq (.region rfl ?_)
 refine .box [_] .ro rfl rfl rfl (fun b1 hb1 => ?_)
 refine .av rfl rfl (.av rfl rfl (.re (.seq (.region rfl (.q .ro (.load_own_a 0 [_] rfl rfl ty45 rfl) rfl (.mv rfl rfl (.mv rfl rfl (.mv rfl rfl ?_))))))))
 obtain ⟨u2, hu2, r3⟩ := bind_some h
 refine .callS (b1 := []) (b2 := [_]) (s1 := []) [_, _, _, _] [] .ro rfl rfl Tryz.call71 rfl rfl (vector_Combine_c (G := G) mcs s3 s2 hu2) rfl (fun v5 bo so h4 => ?_)
 obtain ⟨a7, k8, cs9, rfl, rfl, rfl, o10⟩ := h4
 refine .same (bl' := [_]) (sl' := [_]) rfl rfl rfl (.q .ro (.extract rfl rfl) rfl (.q .ro (.extract rfl rfl) rfl (.av rfl rfl (.av rfl rfl (.re ?_)))))
 cases r3
 refine .drop 1 0 [] _ rfl rfl ?_
 refine .retS (.inr ⟨_, rfl⟩) [.tmp 8, .tmp 9] [_, _] rfl Tryz.func23 Tryz.results23 ⟨RV.tmp rfl, RV.tmp rfl, trivial⟩ mcm ⟨a7, k8, cs9, rfl, rfl, rfl, o10⟩
theorem ref04_Same_c {Fs : List Hp} {G : Hp} {a0 : Option Addr} {k0 : Nat} {x0 : List Int} {a1 : Option Addr} {k1 : Nat} {x1 : List Int} {r : Bool} (hG : G ∈ Fs) (s0 : SlR ri G a0 k0 x0) (s1 : SlR ri G a1 k1 x1) (h : ref04_Same x0 x1 = some r) : RetS Tryz.prog 31 #[.slice a0 x0.length k0, .slice a1 x1.length k1] Fs [] [] (fun v bo so => v = .bool r ∧ bo = [] ∧ so = []) := by
 unfold ref04_Same at h
 try dsimp only at h
 refine RetS.of (vs := [_, _]) Tryz.func31 rfl Tryz.ntmps31 [(0, _), (1, _)] ⟨rfl, rfl, trivial⟩ rfl hG fun w0 S0 hS0 B0 => ?_
 refine .seq (.region rfl (.av rfl rfl (.re (.seq (.seq (.region rfl (.mv rfl rfl (.q .ro (.len_sl rfl rfl sl22) rfl (.mv rfl rfl (.q .ro (.len_sl rfl rfl sl22) rfl (.q .ro (.neq rfl rfl) rfl (.re ?_))))))))))))
 refine .cond_dec rfl (fun c1 => ?_) (fun c1 => ?_)
 ·have r2 := ifT h c1; clear h
  refine .seq (.region rfl (.av rfl rfl (.re ?_)))
  cases r2
  refine .retS (.inr ⟨_, rfl⟩) [.tmp 4] [_] rfl Tryz.func31 Tryz.results31 ⟨RV.tmp rfl, trivial⟩ mcm ⟨rfl, rfl, rfl⟩
 ·have r3 := ifF h c1; clear h
  refine .skip (.seq (.seq (.region rfl (.mv rfl rfl (.q .ro (.len_sl rfl rfl sl22) rfl (.mv rfl rfl (.re (.block ?_))))))))
  refine .loop2 (α := Nat × List Int) (fun y => [(13, .int .i64 (y.1 : Int))]) [(0, _), (1, _), (12, _)] (fun y => []) (fun y => []) [] (fun y => []) [] (fun y => List.drop y.1 x0 = y.2 ∧ ref04_Same_L1 x1 y.2 y.1  = some r) (fun y => y.2.length) (0, x0) ⟨rfl, r3⟩ ⟨rfl, rfl, rfl, rfl, trivial⟩ rfl rfl rfl (fun y hI hb27 => ?_)
  obtain ⟨i23, w24⟩ := y
  obtain ⟨g25, r26⟩ := hI
  try dsimp only at g25 r26
  refine .prune [(13, .int .i64 (i23 : Int)), (0, _), (1, _), (12, _)] ⟨rfl, rfl, rfl, rfl, trivial⟩ (.same (bl' := []) (sl' := []) (Fs' := G :: Fs) rfl rfl rfl ?_)
  cases w24 with
  | nil =>
   rw [ref04_Same_L1] at r26; try dsimp only at r26
   refine .seq (.region rfl (.q .ro (.lss rfl rfl) rfl (.re (.seq ?_))))
   refine .cond_dec rfl (fun c => absurd c (drop_nil g25)) (fun _ => ?_)
   refine .exit rfl (.seq (.region rfl (.av rfl rfl (.re ?_))))
   cases r26
   refine .retS (.inr ⟨_, rfl⟩) [.tmp 4] [_] rfl Tryz.func31 Tryz.results31 ⟨RV.tmp rfl, trivial⟩ mcm ⟨rfl, rfl, rfl⟩
  | cons x32 xs33 =>
   have r31 : ref04_Same_B1 x1 (ref04_Same_L1 x1 xs33 (i23 + 1)) x32 i23  = some r := r26; clear r26; unfold ref04_Same_B1 at r31; try dsimp only at r31
   refine .seq (.region rfl (.q .ro (.lss rfl rfl) rfl (.re (.seq ?_))))
   refine .cond_dec rfl (fun _ => ?_) (fun c => absurd (drop_lt g25) c)
   refine .skip (.seq (.block (.seq (.region rfl (.mv rfl rfl (.av rfl rfl (.re (.seq (.drawL (.q 0 (.q 1 (.q 2 (.q 3 (.q 4 (.q 5 (.q 6 (.q 7 (.q 8 .nil))))))))) [] (by kernel_rfl) (by kernel_rfl) (pick_mem [] rfl) (.dq (.move rfl) rfl (.dq (.move rfl) rfl ?_)))))))))))
   obtain ⟨c34, p35, h36⟩ := SlR.get s0 (drop_idx g25)
   obtain rfl := h36
   refine .dq (.idxR s0 rfl rfl (drop_idx g25) sl22 ty3.sz) rfl (.dq (.load_rp p35 mcs rfl ty3 rfl) rfl (.dq (.move rfl) rfl (.dq (.move rfl) rfl ?_)))
   obtain ⟨u37, hu37, r38⟩ := bind_some r31
   obtain ⟨c39, p40, h41⟩ := SlR.get s1 hu37
   obtain rfl := h41
   refine .dq (.idxR s1 rfl rfl hu37 sl22 ty3.sz) rfl (.dq (.load_rp p40 mcs rfl ty3 rfl) rfl (.dq (.neq rfl rfl) rfl (.draw_end ?_)))
   refine .cond_dec rfl (fun c42 => ?_) (fun c42 => ?_)
   ·have r43 := ifT r38 c42; clear r38
    refine .seq (.region rfl (.av rfl rfl (.re (.prune [(4, _)] ⟨rfl, trivial⟩ ?_))))
    cases r43
    refine .retS (.inr ⟨_, rfl⟩) [.tmp 4] [_] rfl Tryz.func31 Tryz.results31 ⟨RV.tmp rfl, trivial⟩ mcm ⟨rfl, rfl, rfl⟩
   ·have r44 := ifF r38 c42; clear r38
    refine .skip (.inBlock (.region rfl (.q .ro (.addw rfl rfl) rfl (.mv rfl rfl (.re (.prune [(13, _), (0, _), (1, _), (12, _)] ⟨rfl, rfl, rfl, rfl, trivial⟩ ?_))))))
    exact .arr (hb27 ((i23 + 1), xs33) ⟨(drop_succ g25), r44⟩ (Nat.lt_succ_self _)) ⟨(congrArg (fun z => some (Value.int .i64 z)) (idx_wrap (SlR.len s0) g25)), rfl, rfl, rfl, trivial⟩
theorem slices_Clone_Lintint_c {Fs : List Hp} {G : Hp} {a0 : Option Addr} {k0 : Nat} {x0 : List Int} {r : (List Int)} (hG : G ∈ Fs) (s0 : SlR ri G a0 k0 x0) (h : slices_Clone_Lintint x0 = some r) : RetS Tryz.prog 100 #[.slice a0 x0.length k0] Fs [] [] (fun v bo so => ∃ (oa0 : Option Addr) (ok0 : Nat) (oc0 : List Value), v = .slice oa0 r.length ok0 ∧ bo = [] ∧ so = [.s (.slice oa0 r.length ok0) 3 1 r.length oc0] ∧ OL ri G oc0 r) := by
 unfold slices_Clone_Lintint at h
 try dsimp only at h
 refine RetS.of (vs := [_]) Tryz.func100 rfl Tryz.ntmps100 [(0, _)] ⟨rfl, trivial⟩ rfl hG fun w0 S0 hS0 B0 => ?_
 refine .seq (.region rfl (.av rfl rfl (.re (.seq (.seq (.region rfl (.mv rfl rfl (.q .ro (.eqnil Tryz.underlying22 rfl rfl) rfl (.re ?_)))))))))
 refine .cond rfl (fun c1 => ?_) (fun _ => ?_)
 ·have h2 := SlR.isnil s0 c1
  refine .seq (.region rfl (.av rfl rfl (.re (.own_nil 3 1 ?_))))
  obtain rfl := nil_clone h2 h
  refine .retS (.inr ⟨_, rfl⟩) [.tmp 2] [_] rfl Tryz.func100 Tryz.results100 ⟨RV.tmp rfl, trivial⟩ mcm ⟨none, 0, [], rfl, rfl, rfl, (OL.nil (Rp' := ri))⟩
 ·refine .skip ?_
  refine .seq (.region rfl ?_)
  refine .lit [] [] .ro sl22 ty3 rfl rfl rfl rfl rfl rfl (fun b4 hb4 => ?_)
  have o5 : OL ri G [] ([] : List Int) := ((OL.nil (Rp' := ri)) :)
  refine .reval 5 (n' := ([] : List Int).length) rfl rfl (.mv rfl rfl ?_)
  obtain ⟨u11, hu11, r12⟩ := bind_some h
  refine .appR (Q := ri) 0 .ro sl22 ty3 rfl rfl rfl rfl rfl o5 rfl rfl s0 rfl mcs hu11 rfl (fun a7 k8 cs9 o10 => ?_)
  refine .av rfl rfl (.re ?_)
  cases r12
  refine .retS (.inr ⟨_, rfl⟩) [.tmp 2] [_] rfl Tryz.func100 Tryz.results100 ⟨RV.tmp rfl, trivial⟩ mcm ⟨a7, k8, cs9, rfl, rfl, rfl, o10⟩
theorem tape_valid_c {Fs : List Hp} {G : Hp} {a0_0 : Option Addr} {k0_0 : Nat} {x0_0 : List Int} {x0_1 : Int} {r : Bool} (hG : G ∈ Fs) (s0_0 : SlR ri G a0_0 k0_0 x0_0) (h : tape_valid (x0_0, x0_1) = some r) : RetS Tryz.prog 121 #[.agg #[.slice a0_0 x0_0.length k0_0, .int .i64 x0_1]] Fs [] [] (fun v bo so => v = .bool r ∧ bo = [] ∧ so = []) := by
 unfold tape_valid at h
 try dsimp only at h
 refine RetS.of (vs := [_]) Tryz.func121 rfl Tryz.ntmps121 [(0, _)] ⟨rfl, trivial⟩ rfl hG fun w0 S0 hS0 B0 => ?_
 refine .seq (.region rfl ?_)
 refine .box [_, _] .ro rfl rfl rfl (fun b1 hb1 => ?_)
 refine .av rfl rfl (.re (.seq (.region rfl (.q .ro (.fieldAddr 0 rfl fl56_0 ty22.sz rfl) rfl (.q .ro (.load_own 0 rfl rfl ty22 rfl) rfl (.q .ro (.len_sl rfl rfl sl22) rfl (.q .ro (.leq rfl rfl) rfl (.mv rfl rfl ?_))))))))
 refine .cutR 4 (β := Unit) (fun y => [(11, .bool (decide (((x0_0.length : Int) ≤ 16384) ∧ (0 ≤ x0_1))))]) [(1, _), (2, _)] (fun y => G :: Fs) (fun y => []) [_] (fun y => []) [] (fun y => True) ⟨rfl, rfl, trivial⟩ [0] rfl [] rfl ?_ ?_
 ·rintro _ _
  refine .prune [(11, .bool (decide (((x0_0.length : Int) ≤ 16384) ∧ (0 ≤ x0_1)))), (1, _), (2, _)] ⟨rfl, rfl, rfl, trivial⟩ (.same (bl' := [_]) (sl' := []) (Fs' := G :: Fs) rfl rfl rfl (.mv rfl rfl ?_))
  refine .cutR 7 (β := Unit) (fun y => [(19, .bool (decide ((((x0_0.length : Int) ≤ 16384) ∧ (0 ≤ x0_1)) ∧ (x0_1 ≤ (x0_0.length : Int)))))]) [(2, _)] (fun y => G :: Fs) (fun y => []) [_] (fun y => []) [] (fun y => True) ⟨rfl, trivial⟩ [0] rfl [] rfl ?_ ?_
  ·rintro _ _
   refine .prune [(19, .bool (decide ((((x0_0.length : Int) ≤ 16384) ∧ (0 ≤ x0_1)) ∧ (x0_1 ≤ (x0_0.length : Int))))), (2, _)] ⟨rfl, rfl, trivial⟩ (.same (bl' := [_]) (sl' := []) (Fs' := G :: Fs) rfl rfl rfl (.av rfl rfl (.re ?_)))
   cases h
   refine .drop 1 0 [] _ rfl rfl ?_
   refine .retS (.inr ⟨_, rfl⟩) [.tmp 2] [_] rfl Tryz.func121 Tryz.results121 ⟨RV.tmp rfl, trivial⟩ mcm ⟨rfl, rfl, rfl⟩
  ·intro hb7
   refine .split 12 rfl (fun c6 => ?_) (fun c6 => ?_)
   ·refine .g_on rfl ?_
    refine .q .ro (.fieldAddr 1 rfl fl56_1 ty3.sz rfl) rfl (.g_on rfl (.q .ro (.load_own 0 rfl rfl ty3 rfl) rfl (.g_on rfl (.q .ro (.fieldAddr 0 rfl fl56_0 ty22.sz rfl) rfl (.g_on rfl (.q .ro (.load_own 0 rfl rfl ty22 rfl) rfl (.g_on rfl (.q .ro (.len_sl rfl rfl sl22) rfl (.g_on rfl (.q .ro (.leq rfl rfl) rfl (.q .ro (.pick_t rfl rfl) rfl ?_)))))))))))
    exact .arr (hb7 () trivial) ⟨dand_t c6, rfl, trivial⟩
   ·refine .g_off rfl rfl rfl ?_
    refine .g_off rfl rfl rfl (.g_off rfl rfl rfl (.g_off rfl rfl rfl (.g_off rfl rfl rfl (.g_off rfl rfl rfl (.q .ro (.pick_f rfl rfl) rfl ?_)))))
    exact .arr (hb7 () trivial) ⟨dand_f c6, rfl, trivial⟩
 ·intro hb3
  refine .split 7 rfl (fun c2 => ?_) (fun c2 => ?_)
  ·refine .g_on rfl ?_
   refine .q .ro (.fieldAddr 1 rfl fl56_1 ty3.sz rfl) rfl (.g_on rfl (.q .ro (.load_own 0 rfl rfl ty3 rfl) rfl (.g_on rfl (.q .ro (.geq rfl rfl) rfl (.q .ro (.pick_t rfl rfl) rfl ?_)))))
   exact .arr (hb3 () trivial) ⟨dand_t c2, rfl, rfl, trivial⟩
  ·refine .g_off rfl rfl rfl ?_
   refine .g_off rfl rfl rfl (.g_off rfl rfl rfl (.q .ro (.pick_f rfl rfl) rfl ?_))
   exact .arr (hb3 () trivial) ⟨dand_f c2, rfl, rfl, trivial⟩
theorem tape_limit_c {Fs : List Hp} {G : Hp} {x0 : Int} {r : Bool} (hG : G ∈ Fs)  (h : tape_limit x0 = some r) : RetS Tryz.prog 122 #[.int .i64 x0] Fs [] [] (fun v bo so => v = .bool r ∧ bo = [] ∧ so = []) := by
 unfold tape_limit at h
 try dsimp only at h
 refine RetS.of (vs := [_]) Tryz.func122 rfl Tryz.ntmps122 [(0, _)] ⟨rfl, trivial⟩ rfl hG fun w0 S0 hS0 B0 => ?_
 refine .seq (.region rfl (.av rfl rfl (.re (.seq (.region rfl (.mv rfl rfl (.q .ro (.geq rfl rfl) rfl (.mv rfl rfl ?_))))))))
 refine .cutR 3 (β := Unit) (fun y => [(8, .bool (decide ((1 ≤ x0) ∧ (x0 ≤ 2147483647))))]) [(2, _)] (fun y => G :: Fs) (fun y => []) [] (fun y => []) [] (fun y => True) ⟨rfl, trivial⟩ [] rfl [] rfl ?_ ?_
 ·rintro _ _
  refine .prune [(8, .bool (decide ((1 ≤ x0) ∧ (x0 ≤ 2147483647)))), (2, _)] ⟨rfl, rfl, trivial⟩ (.same (bl' := []) (sl' := []) (Fs' := G :: Fs) rfl rfl rfl (.av rfl rfl (.re ?_)))
  cases h
  refine .retS (.inr ⟨_, rfl⟩) [.tmp 2] [_] rfl Tryz.func122 Tryz.results122 ⟨RV.tmp rfl, trivial⟩ mcm ⟨rfl, rfl, rfl⟩
 ·intro hb2
  refine .split 5 rfl (fun c1 => ?_) (fun c1 => ?_)
  ·refine .g_on rfl ?_
   refine .mv rfl rfl (.g_on rfl (.q .ro (.leq rfl rfl) rfl (.q .ro (.pick_t rfl rfl) rfl ?_)))
   exact .arr (hb2 () trivial) ⟨dand_t c1, rfl, trivial⟩
  ·refine .g_off rfl rfl rfl ?_
   refine .g_off rfl rfl rfl (.q .ro (.pick_f rfl rfl) rfl ?_)
   exact .arr (hb2 () trivial) ⟨dand_f c1, rfl, trivial⟩
theorem tape_position_next_c {Fs : List Hp} {G : Hp} {p0 : Nat} {a0_0 : Option Addr} {k0_0 : Nat} {x0_0 : List Int} {x0_1 : Int} {a0_2 : Option Addr} {k0_2 : Nat} {x0_2 : List Int} {cc0_2 : List Value} {x1 : Int} {r : (Int × Int × Int)} (hG : G ∈ Fs) (s0_0 : SlR ri G a0_0 k0_0 x0_0) (oo0_2 : OL ri G cc0_2 x0_2) (h : tape_position_next ((x0_0, x0_1), x0_2) x1 = some r) : RetS Tryz.prog 149 #[.pointer (some ⟨p0, 0, none⟩), .int .i64 x1] Fs [(p0, .cells #[.slice a0_0 x0_0.length k0_0, .int .i64 x0_1, .slice a0_2 x0_2.length k0_2] 209 (0, 0))] [.s (.slice a0_2 x0_2.length k0_2) 3 1 x0_2.length cc0_2] (fun v bo so => v = .tuple #[.int .i64 r.1, .int .i64 r.2.1] ∧ bo = [(p0, .cells #[.slice a0_0 x0_0.length k0_0, .int .i64 r.2.2, .slice a0_2 x0_2.length k0_2] 209 (0, 0))] ∧ so = [.s (.slice a0_2 x0_2.length k0_2) 3 1 x0_2.length cc0_2]) := by
 unfold tape_position_next at h
 try dsimp only at h
 refine RetS.of (vs := [_, _]) Tryz.func149 rfl Tryz.ntmps149 [(0, _), (1, _)] ⟨rfl, rfl, trivial⟩ rfl hG fun w0 S0 hS0 B0 => ?_
 refine .seq (.region rfl (.av rfl rfl (.av rfl rfl (.re (.seq (.seq (.drawL (.q 0 (.q 1 (.q 2 (.q 3 (.q 4 (.q 5 (.q 6 (.q 7 (.q 8 (.q 9 .nil)))))))))) [_] (by kernel_rfl) (by kernel_rfl) (pick_mem [0] rfl) (.dq (.move rfl) rfl (.dq (.nilCheck rfl rfl) rfl (.dq (.fieldAddr 1 rfl fl207_1 ty3.sz rfl) rfl (.dq (.load_own 0 rfl rfl ty3 rfl) rfl (.dq (.move rfl) rfl (.dq (.nilCheck rfl rfl) rfl (.dq (.fieldAddr 0 rfl fl207_0 ty22.sz rfl) rfl (.dq (.load_own 0 rfl rfl ty22 rfl) rfl (.dq (.len_sl rfl rfl sl22) rfl (.dq (.eql rfl rfl) rfl (.draw_end ?_))))))))))))))))))
 refine .cond_dec rfl (fun c2 => ?_) (fun c2 => ?_)
 ·have r3 := ifT h c2; clear h
  refine .seq (.region rfl (.av rfl rfl (.av rfl rfl (.re ?_))))
  cases r3
  refine .retS (.inr ⟨_, rfl⟩) [.tmp 4, .tmp 5] [_, _] rfl Tryz.func149 Tryz.results149 ⟨RV.tmp rfl, RV.tmp rfl, trivial⟩ mcm ⟨rfl, rfl, rfl⟩
 ·have r4 := ifF h c2; clear h
  refine .skip (.seq (.drawL (.q 0 (.q 1 (.q 2 (.q 3 (.q 4 (.q 5 (.q 6 (.q 7 (.e 8 1 (.e 9 1 (.q 10 .nil))))))))))) [_] (by kernel_rfl) (by kernel_rfl) (pick_mem [0] rfl) (.dq (.move rfl) rfl (.dq (.nilCheck rfl rfl) rfl (.dq (.fieldAddr 0 rfl fl207_0 ty22.sz rfl) rfl (.dq (.load_own 0 rfl rfl ty22 rfl) rfl (.dq (.move rfl) rfl (.dq (.nilCheck rfl rfl) rfl (.dq (.fieldAddr 1 rfl fl207_1 ty3.sz rfl) rfl (.dq (.load_own 0 rfl rfl ty3 rfl) rfl ?_))))))))))
  obtain ⟨u5, hu5, r6⟩ := bind_some r4
  obtain ⟨c7, p8, h9⟩ := SlR.get s0_0 hu5
  obtain rfl := h9
  refine .q .d1 (.idxR s0_0 rfl rfl hu5 sl22 ty3.sz) rfl (.clsL (HpLe.refl _) (pick_mem [0] rfl) (.q .d1 (.load_rp p8 mcs rfl ty3 rfl) rfl (.clsL (HpLe.refl _) (pick_mem [0] rfl) (.dq (.assign rfl) rfl (.draw_end (.prune [(0, _), (1, _), (6, _)] ⟨rfl, rfl, rfl, trivial⟩ (.seq (.seq (.region rfl (.mv rfl rfl (.q .ro (.lss rfl rfl) rfl (.mv rfl rfl ?_))))))))))))
  refine .cutR 4 (β := Unit) (fun y => [(33, .bool (decide ((u5 < 0) ∨ (x1 ≤ u5))))]) [(0, _), (6, _)] (fun y => G :: Fs) (fun y => []) [_] (fun y => []) [_] (fun y => True) ⟨rfl, rfl, trivial⟩ [0] rfl [0] rfl ?_ ?_
  ·rintro _ _
   refine .prune [(33, .bool (decide ((u5 < 0) ∨ (x1 ≤ u5)))), (0, _), (6, _)] ⟨rfl, rfl, rfl, trivial⟩ (.same (bl' := [_]) (sl' := [_]) (Fs' := G :: Fs) rfl rfl rfl (.re ?_))
   refine .cond_dec rfl (fun c14 => ?_) (fun c14 => ?_)
   ·have r15 := ifT r6 c14; clear r6
    refine .seq (.region rfl (.av rfl rfl (.av rfl rfl (.re ?_))))
    cases r15
    refine .retS (.inr ⟨_, rfl⟩) [.tmp 4, .tmp 5] [_, _] rfl Tryz.func149 Tryz.results149 ⟨RV.tmp rfl, RV.tmp rfl, trivial⟩ mcm ⟨rfl, rfl, rfl⟩
   ·have r16 := ifF r6 c14; clear r6
    refine .skip (.seq (.region rfl (.mv rfl rfl (.q .ro (.nilCheck rfl rfl) rfl (.q .ro (.fieldAddr 1 rfl fl207_1 ty3.sz rfl) rfl (.q .ro (.load_own 0 rfl rfl ty3 rfl) rfl (.q .ro (.addw rfl rfl) rfl (.q .ro (.nilCheck rfl rfl) rfl (.q .ro (.fieldAddr 1 rfl fl207_1 ty3.sz rfl) rfl (.store 0 [_, _, _] [_] .ro rfl rfl rfl ty3 rfl rfl rfl rfl (.re (.seq (.region rfl (.mv rfl rfl (.av rfl rfl (.av rfl rfl (.re ?_)))))))))))))))))
    cases r16
    refine .retS (.inr ⟨_, rfl⟩) [.tmp 4, .tmp 5] [_, _] rfl Tryz.func149 Tryz.results149 ⟨RV.tmp rfl, RV.tmp rfl, trivial⟩ mcm ⟨rfl, rfl, rfl⟩
  ·intro hb11
   refine .split 29 rfl (fun c10 => ?_) (fun c10 => ?_)
   ·refine .g_off rfl rfl rfl ?_
    refine .g_off rfl rfl rfl (.g_off rfl rfl rfl (.q .ro (.pick_t rfl rfl) rfl ?_))
    exact .arr (hb11 () trivial) ⟨dor_t c10, rfl, rfl, trivial⟩
   ·refine .g_on rfl ?_
    refine .mv rfl rfl (.g_on rfl (.mv rfl rfl (.g_on rfl (.q .ro (.geq rfl rfl) rfl (.q .ro (.pick_f rfl rfl) rfl ?_)))))
    exact .arr (hb11 () trivial) ⟨dor_f c10, rfl, rfl, trivial⟩
theorem tape_drawing_draw_c {Fs : List Hp} {G : Hp} {p0 : Nat} {a0_0 : Option Addr} {k0_0 : Nat} {x0_0 : List Int} {x0_1 : Int} {a0_2 : Option Addr} {k0_2 : Nat} {x0_2 : List Int} {cc0_2 : List Value} {x1 : Int} {x2 : Int} {r : (Int × Int × (List Int))} (hG : G ∈ Fs) (s0_0 : SlR ri G a0_0 k0_0 x0_0) (oo0_2 : OL ri G cc0_2 x0_2) (h : tape_drawing_draw ((x0_0, x0_1), x0_2) x1 x2 = some r) : RetS Tryz.prog 123 #[.pointer (some ⟨p0, 0, none⟩), .int .i64 x1, .int .i64 x2] Fs [(p0, .cells #[.slice a0_0 x0_0.length k0_0, .int .i64 x0_1, .slice a0_2 x0_2.length k0_2] 209 (0, 0))] [.s (.slice a0_2 x0_2.length k0_2) 3 1 x0_2.length cc0_2] (fun v bo so => ∃ la0 : Option Addr, ∃ lk0 : Nat, ∃ lc0 : List Value, v = .int .i64 r.1 ∧ bo = [(p0, .cells #[.slice a0_0 x0_0.length k0_0, .int .i64 r.2.1, .slice la0 r.2.2.length lk0] 209 (0, 0))] ∧ so = [.s (.slice la0 r.2.2.length lk0) 3 1 r.2.2.length lc0] ∧ OL ri G lc0 r.2.2) := by
 unfold tape_drawing_draw at h
 try dsimp only at h
 refine RetS.of (vs := [_, _, _]) Tryz.func123 rfl Tryz.ntmps123 [(0, _), (1, _), (2, _)] ⟨rfl, rfl, rfl, trivial⟩ rfl hG fun w0 S0 hS0 B0 => ?_
 refine .seq (.region rfl (.av rfl rfl (.re (.seq (.seq (.region rfl (.av rfl rfl (.re (.block ?_)))))))))
 refine .loop2 (α := Nat × Int × Int × List Int × Option Addr × Nat × List Value) (fun y => [(7, .int .i64 y.2.1)]) [(0, _), (1, _), (2, _)] (fun y => []) (fun y => [(p0, .cells #[.slice a0_0 x0_0.length k0_0, .int .i64 y.2.2.1, .slice y.2.2.2.2.1 y.2.2.2.1.length y.2.2.2.2.2.1] 209 (0, 0))]) [] (fun y => [.s (.slice y.2.2.2.2.1 y.2.2.2.1.length y.2.2.2.2.2.1) 3 1 y.2.2.2.1.length y.2.2.2.2.2.2]) [] (fun y => OL ri G y.2.2.2.2.2.2 y.2.2.2.1 ∧ tape_drawing_draw_L1 x1 x2 x0_0 y.1 y.2.1 y.2.2.1 y.2.2.2.1 = some r) (fun y => y.1) (big, 0, x0_1, x0_2, a0_2, k0_2, cc0_2) ⟨oo0_2, h⟩ ⟨rfl, rfl, rfl, rfl, trivial⟩ rfl rfl rfl (fun y hI hb36 => ?_)
 obtain ⟨n25, v27, v28, v29, a30, k31, cs32⟩ := y
 obtain ⟨o33, r35⟩ := hI
 try dsimp only at o33 r35
 refine .prune [(7, .int .i64 v27), (0, _), (1, _), (2, _)] ⟨rfl, rfl, rfl, rfl, trivial⟩ (.same (bl' := [(p0, .cells #[.slice a0_0 x0_0.length k0_0, .int .i64 v28, .slice a30 v29.length k31] 209 (0, 0))]) (sl' := [.s (.slice a30 v29.length k31) 3 1 v29.length cs32]) (Fs' := G :: Fs) rfl rfl rfl ?_)
 obtain ⟨m41, rfl⟩ : ∃ m, n25 = m + 1 := by cases n25 with | zero => exact absurd (show (none : Option _) = some _ from r35) (by simp) | succ m => exact ⟨m, rfl⟩
 have r40 : tape_drawing_draw_B1 x1 x2 x0_0 (tape_drawing_draw_L1 x1 x2 x0_0 m41) v27 v28 v29 = some r := r35; clear r35; unfold tape_drawing_draw_B1 at r40; try dsimp only at r40
 refine .seq (.seq (.region rfl (.mv rfl rfl (.mv rfl rfl (.q .ro (.lss rfl rfl) rfl (.re ?_))))))
 refine .cond_dec rfl (fun c42 => ?_) (fun c42 => ?_)
 ·have r43 := ifT r40 c42; clear r40
  refine .skip (.seq (.block (.seq (.region rfl (.mv rfl rfl (.q .ro (.nilCheck rfl rfl) rfl (.q .ro (.fieldAddr 0 rfl fl209_0 ty207.sz rfl) rfl (.mv rfl rfl ?_))))))))
  obtain ⟨u44, hu44, r45⟩ := bind_some r43
  refine .callS (b1 := [_]) (b2 := []) (s1 := [_]) [_, _] [] .ro rfl rfl Tryz.call149 rfl rfl (tape_position_next_c (G := G) mcs s0_0 o33 hu44) rfl (fun v47 bo so h46 => ?_)
  obtain ⟨rfl, rfl, rfl⟩ := h46
  refine .same (bl' := [_]) (sl' := [_]) rfl rfl rfl (.mv rfl rfl (.q .ro (.extract rfl rfl) rfl (.q .ro (.extract rfl rfl) rfl (.av rfl rfl (.av rfl rfl (.re (.seq (.seq (.region rfl (.mv rfl rfl (.q .ro (.neq rfl rfl) rfl (.re ?_))))))))))))
  refine .cond_dec rfl (fun c48 => ?_) (fun c48 => ?_)
  ·have r49 := ifT r45 c48; clear r45
   refine .seq (.region rfl (.mv rfl rfl (.av rfl rfl (.re (.prune [(6, _)] ⟨rfl, trivial⟩ ?_)))))
   cases r49
   refine .retS (.inr ⟨_, rfl⟩) [.tmp 6] [_] rfl Tryz.func123 Tryz.results123 ⟨RV.tmp rfl, trivial⟩ mcm ⟨a30, k31, cs32, rfl, rfl, rfl, o33⟩
  ·have r50 := ifF r45 c48; clear r45
   refine .skip (.region rfl (.mv rfl rfl (.mv rfl rfl (.q .ro (.nilCheck rfl rfl) rfl (.q .ro (.fieldAddr 2 rfl fl209_1 ty22.sz rfl) rfl (.q .ro (.load_own 0 rfl rfl ty22 rfl) rfl (.mv rfl rfl ?_)))))))
   refine .lit [_] [(0, _)] .ro sl22 ty3 rfl rfl rfl rfl rfl rfl (fun b51 hb51 => ?_)
   have o52 : OL ri G [.int .i64 u44.1] ([u44.1] : List Int) := ((OL.cons rfl (Rep.intI .i64 u44.1) (OL.nil (Rp' := ri))) :)
   refine .reval 32 (n' := ([u44.1] : List Int).length) rfl rfl ?_
   obtain ⟨u58, hu58, r59⟩ := bind_some r50
   refine .appO (Q := ri) 0 .ro sl22 ty3 rfl rfl rfl rfl rfl rfl o33 o52 rfl rfl rfl B0 hu58 rfl (fun a54 k55 cs56 o57 => ?_)
   refine .q .ro (.nilCheck rfl rfl) rfl (.q .ro (.fieldAddr 2 rfl fl209_1 ty22.sz rfl) rfl (.store 0 [_, _, _] [_] .ro rfl rfl rfl ty22 rfl rfl rfl rfl (.re (.prune [(7, _), (0, _), (1, _), (2, _)] ⟨rfl, rfl, rfl, rfl, trivial⟩ (.inBlock (.region rfl (.mv rfl rfl (.q .ro (.addw rfl rfl) rfl (.av rfl rfl (.re ?_))))))))))
   exact .arr (hb36 (m41, (w64 (v27 + 1)), u44.2.2, u58, a54, k55, cs56) ⟨o57, r59⟩ (Nat.lt_succ_self _)) ⟨rfl, rfl, rfl, rfl, trivial⟩
 ·have r61 := ifF r40 c42; clear r40
  refine .exit rfl (.seq (.region rfl (.av rfl rfl (.re ?_))))
  cases r61
  refine .retS (.inr ⟨_, rfl⟩) [.tmp 6] [_] rfl Tryz.func123 Tryz.results123 ⟨RV.tmp rfl, trivial⟩ mcm ⟨a30, k31, cs32, rfl, rfl, rfl, o33⟩
theorem tape_Draws_c {Fs : List Hp} {G : Hp} {a0_0 : Option Addr} {k0_0 : Nat} {x0_0 : List Int} {x0_1 : Int} {x1 : Int} {x2 : Int} {r : (((List Int) × Int) × (List Int) × Int)} (hG : G ∈ Fs) (s0_0 : SlR ri G a0_0 k0_0 x0_0) (h : tape_Draws (x0_0, x0_1) x1 x2 = some r) : RetW Tryz.prog 65 #[.agg #[.slice a0_0 x0_0.length k0_0, .int .i64 x0_1], .int .i64 x1, .int .i64 x2] Fs [] [] (fun v bo so G => ∃ a0 : Option Addr, ∃ k0 : Nat, ∃ (oa0 : Option Addr) (ok0 : Nat) (oc0 : List Value), v = .tuple #[.agg #[.slice a0 r.1.1.length k0, .int .i64 r.1.2], .slice oa0 r.2.1.length ok0, .int .i64 r.2.2] ∧ bo = [] ∧ so = [.s (.slice oa0 r.2.1.length ok0) 3 1 r.2.1.length oc0] ∧ SlR ri G a0 k0 r.1.1 ∧ OL ri G oc0 r.2.1) := by
 unfold tape_Draws at h
 try dsimp only at h
 refine RetW.of (vs := [_, _, _]) Tryz.func65 rfl Tryz.ntmps65 [(0, _), (1, _), (2, _)] ⟨rfl, rfl, rfl, trivial⟩ rfl hG fun w0 S0 hS0 B0 => ?_
 refine .seq (.region rfl ?_)
 refine .box [_, _] .ro rfl rfl rfl (fun b1 hb1 => ?_)
 refine .alloc .ro ty56 rfl (fun b2 hb2 => ?_)
 refine .av rfl rfl (.av rfl rfl (.re (.seq (.seq (.region rfl (.q .ro (.load_own_a 1 [_, _] rfl rfl ty56 rfl) rfl ?_))))))
 obtain ⟨u3, hu3, r4⟩ := bind_some h
 refine .callS (b1 := []) (b2 := [_, _]) (s1 := []) [_] [] .ro rfl rfl Tryz.call121 rfl rfl (tape_valid_c (G := G) mcs s0_0 hu3) rfl (fun v6 bo so h5 => ?_)
 obtain ⟨rfl, rfl, rfl⟩ := h5
 refine .same (bl' := [_, _]) (sl' := []) rfl rfl rfl (.q .ro (.not rfl) rfl (.re ?_))
 refine .cond rfl (fun c7 => ?_) (fun c7 => ?_)
 ·have r8 := ifT r4 c7; clear r4
  refine .seq (.region rfl (.q .ro (.build [_, _] [] ty56 pl56 rfl rfl) rfl (.store 0 [_, _] [_, _] .ro rfl rfl rfl ty56 rfl rfl rfl rfl (.av rfl rfl (.av rfl rfl (.re (.own_nil 3 1 ?_)))))))
  cases r8
  refine .retWD 2 (.inr ⟨_, rfl⟩) [.cell 6 56, .tmp 7, .tmp 8] [_, _, _] rfl Tryz.func65 Tryz.results65 ⟨RV.cell_a 0 [_, _] rfl rfl ty56 rfl, RV.tmp rfl, RV.tmp rfl, trivial⟩ mcm mcs B0 (by subst hS0; simp [blks]) (fun G' hg => ⟨none, 0, none, 0, [], rfl, rfl, rfl, (SlR.mono hg (SlR.nil (Rp' := ri))), (OL.mono hg (OL.nil (Rp' := ri)))⟩)
 ·have r10 := ifBF r4 c7; clear r4
  refine .skip (.seq (.seq (.region rfl (.mv rfl rfl ?_))))
  obtain ⟨u11, hu11, r12⟩ := bind_some r10
  refine .callS (b1 := []) (b2 := [_, _]) (s1 := []) [_] [] .ro rfl rfl Tryz.call122 rfl rfl (tape_limit_c (G := G) mcs  hu11) rfl (fun v14 bo so h13 => ?_)
  obtain ⟨rfl, rfl, rfl⟩ := h13
  refine .same (bl' := [_, _]) (sl' := []) rfl rfl rfl (.q .ro (.not rfl) rfl (.mv rfl rfl ?_))
  refine .cutR 3 (β := Unit) (fun y => [(21, .bool (decide (((!u11) = true) ∨ (x2 < 0))))]) [(1, _), (2, _), (3, _), (6, _)] (fun y => G :: Fs) (fun y => []) [_, _] (fun y => []) [] (fun y => True) ⟨rfl, rfl, rfl, rfl, trivial⟩ [0, 1] rfl [] rfl ?_ ?_
  ·rintro _ _
   refine .prune [(21, .bool (decide (((!u11) = true) ∨ (x2 < 0)))), (1, _), (2, _), (3, _), (6, _)] ⟨rfl, rfl, rfl, rfl, rfl, trivial⟩ (.same (bl' := [_, _]) (sl' := []) (Fs' := G :: Fs) rfl rfl rfl (.re ?_))
   refine .cond_dec rfl (fun c19 => ?_) (fun c19 => ?_)
   ·have r20 := ifT r12 c19; clear r12
    refine .seq (.region rfl (.q .ro (.build [_, _] [] ty56 pl56 rfl rfl) rfl (.store 0 [_, _] [_, _] .ro rfl rfl rfl ty56 rfl rfl rfl rfl (.av rfl rfl (.av rfl rfl (.re (.own_nil 3 1 ?_)))))))
    cases r20
    refine .retWD 2 (.inr ⟨_, rfl⟩) [.cell 6 56, .tmp 7, .tmp 8] [_, _, _] rfl Tryz.func65 Tryz.results65 ⟨RV.cell_a 0 [_, _] rfl rfl ty56 rfl, RV.tmp rfl, RV.tmp rfl, trivial⟩ mcm mcs B0 (by subst hS0; simp [blks]) (fun G' hg => ⟨none, 0, none, 0, [], rfl, rfl, rfl, (SlR.mono hg (SlR.nil (Rp' := ri))), (OL.mono hg (OL.nil (Rp' := ri)))⟩)
   ·have r22 := ifF r12 c19; clear r12
    refine .skip (.seq (.region rfl (.q .ro (.fieldAddr 0 rfl fl56_0 ty22.sz rfl) rfl (.q .ro (.load_own 1 rfl rfl ty22 rfl) rfl (.q .ro (.fieldAddr 1 rfl fl56_1 ty3.sz rfl) rfl (.q .ro (.load_own 1 rfl rfl ty3 rfl) rfl (.q .ro (.build [_, _] [(0, _), (1, _)] ty207 pl207 rfl rfl) rfl (.q .ro (.build [_, _, _] [(0, _)] ty209 pl209 rfl rfl) rfl ?_))))))))
    refine .box [_, _, _] .ro rfl rfl rfl (fun b23 hb23 => ?_)
    refine .av rfl rfl (.re (.seq (.seq (.region rfl (.mv rfl rfl (.mv rfl rfl (.mv rfl rfl (.own_nil 3 1 ?_))))))))
    obtain ⟨u25, hu25, r26⟩ := bind_some r22
    refine .callS (b1 := [_]) (b2 := [_, _]) (s1 := [_]) [_, _, _] [] .ro rfl rfl Tryz.call123 rfl rfl (tape_drawing_draw_c (G := G) mcs s0_0 (OL.nil (Rp' := ri)) hu25) rfl (fun v28 bo so h27 => ?_)
    obtain ⟨a31, k32, cs29, rfl, rfl, rfl, o30⟩ := h27
    refine .same (bl' := [_, _, _]) (sl' := [_]) rfl rfl rfl (.av rfl rfl (.re (.prune [(3, _), (6, _), (9, _), (10, _)] ⟨rfl, rfl, rfl, rfl, trivial⟩ (.seq (.region rfl (.mv rfl rfl (.q .ro (.neq rfl rfl) rfl (.re ?_))))))))
    refine .cond_dec rfl (fun c34 => ?_) (fun c34 => ?_)
    ·have r35 := ifT r26 c34; clear r26
     refine .seq (.region rfl (.q .ro (.build [_, _] [] ty56 pl56 rfl rfl) rfl (.mv rfl rfl (.store 1 [_, _] [_, _, _] .ro rfl rfl rfl ty56 rfl rfl rfl rfl (.av rfl rfl (.av rfl rfl (.re (.own_nil 3 1 ?_))))))))
     cases r35
     refine .pullS 1 rfl [_, _] rfl (.drop 0 1 _ [_] rfl rfl ?_)
     refine .retWD 3 (.inr ⟨_, rfl⟩) [.cell 6 56, .tmp 7, .tmp 8] [_, _, _] rfl Tryz.func65 Tryz.results65 ⟨RV.cell_a 1 [_, _] rfl rfl ty56 rfl, RV.tmp rfl, RV.tmp rfl, trivial⟩ mcm mcs B0 (by subst hS0; simp [blks]) (fun G' hg => ⟨none, 0, none, 0, [], rfl, rfl, rfl, (SlR.mono hg (SlR.nil (Rp' := ri))), (OL.mono hg (OL.nil (Rp' := ri)))⟩)
    ·have r37 := ifF r26 c34; clear r26
     refine .skip (.seq (.drawL (.q 0 (.q 1 (.q 3 (.q 4 (.q 5 (.q 6 (.q 7 (.q 9 (.q 10 (.q 11 (.q 12 (.e 2 1 (.q 8 (.e 13 1 (.q 14 (.q 15 .nil)))))))))))))))) [_, _] (by kernel_rfl) (by kernel_rfl) (pick_mem [0, 2] rfl) (.dq (.fieldAddr 0 rfl fl56_0 ty22.sz rfl) rfl (.dq (.load_own 1 rfl rfl ty22 rfl) rfl (.dq (.move rfl) rfl (.dq (.nilCheck rfl rfl) rfl (.dq (.fieldAddr 0 rfl fl209_0 ty207.sz rfl) rfl (.dq (.fieldAddr 1 rfl fl207_1 ty3.sz rfl) rfl (.dq (.load_own 0 rfl rfl ty3 rfl) rfl (.dq (.move rfl) rfl (.dq (.nilCheck rfl rfl) rfl (.dq (.fieldAddr 2 rfl fl209_1 ty22.sz rfl) rfl (.dq (.load_own 0 rfl rfl ty22 rfl) rfl ?_)))))))))))))
     obtain ⟨u38, hu38, r39⟩ := bind_some r37
     refine .callS (b1 := []) (b2 := [_, _, _]) (s1 := []) [_] [] .d1 rfl rfl Tryz.call100 rfl rfl (slices_Clone_Lintint_c (G := G) mcs s0_0 hu38) rfl (fun v41 bo so h40 => ?_)
     obtain ⟨a43, k44, cs45, rfl, rfl, rfl, o46⟩ := h40
     refine .same (bl' := [_, _, _]) (sl' := [_, _]) rfl rfl rfl (.clsL (HpLe.refl _) (pick_mem [0, 2] rfl) (.dq (.build [_, _] [(0, _), (1, _)] ty56 pl56 rfl rfl) rfl (.store 1 [_, _] [_, _, _] .d1 rfl rfl rfl ty56 rfl rfl rfl rfl (.clsL (HpLe.refl _) (pick_mem [0, 2] rfl) (.dq (.assign rfl) rfl (.dq (.assign rfl) rfl (.draw_end (.prune [(6, _), (7, _), (8, _)] ⟨rfl, rfl, rfl, trivial⟩ ?_))))))))
     refine .freezeR 0 rfl rfl o46 [_] rfl B0 (fun G47 e48 B49 s50 => ?_)
     cases r39
     refine .retWD 3 (.inr ⟨_, rfl⟩) [.cell 6 56, .tmp 7, .tmp 8] [_, _, _] rfl Tryz.func65 Tryz.results65 ⟨RV.cell_a 1 [_, _] rfl rfl ty56 rfl, RV.tmp rfl, RV.tmp rfl, trivial⟩ mcm mcs B49 (by subst hS0; simp [blks]) (fun G' hg => ⟨a43, k44, a31, k32, cs29, rfl, rfl, rfl, (SlR.mono hg s50), (OL.mono hg (OL.mono e48 o30))⟩)
  ·intro hb16
   refine .split_b 18 rfl (fun c15 => ?_) (fun c15 => ?_)
   ·refine .g_off rfl rfl rfl ?_
    refine .g_off rfl rfl rfl (.q .ro (.pick_t rfl rfl) rfl ?_)
    exact .arr (hb16 () trivial) ⟨dor_t c15, rfl, rfl, rfl, rfl, trivial⟩
   ·refine .g_on rfl ?_
    refine .mv rfl rfl (.g_on rfl (.q .ro (.lss rfl rfl) rfl (.q .ro (.pick_f rfl rfl) rfl ?_)))
    exact .arr (hb16 () trivial) ⟨dor_f (bne_of c15), rfl, rfl, rfl, rfl, trivial⟩
theorem curve_valid_c {Fs : List Hp} {G : Hp} {x0_0 : Int} {x0_1 : Int} {r : Bool} (hG : G ∈ Fs)  (h : curve_valid (x0_0, x0_1) = some r) : RetS Tryz.prog 146 #[.agg #[.int .i64 x0_0, .int .i64 x0_1]] Fs [] [] (fun v bo so => v = .bool r ∧ bo = [] ∧ so = []) := by
 unfold curve_valid at h
 try dsimp only at h
 refine RetS.of (vs := [_]) Tryz.func146 rfl Tryz.ntmps146 [(0, _)] ⟨rfl, trivial⟩ rfl hG fun w0 S0 hS0 B0 => ?_
 refine .seq (.region rfl ?_)
 refine .box [_, _] .ro rfl rfl rfl (fun b1 hb1 => ?_)
 refine .av rfl rfl (.re (.seq (.region rfl (.q .ro (.fieldAddr 0 rfl fl69_0 ty3.sz rfl) rfl (.q .ro (.load_own 0 rfl rfl ty3 rfl) rfl (.q .ro (.geq rfl rfl) rfl (.mv rfl rfl ?_)))))))
 refine .cutR 4 (β := Unit) (fun y => [(10, .bool (decide ((2 ≤ x0_0) ∧ (x0_0 ≤ 10))))]) [(1, _), (2, _)] (fun y => G :: Fs) (fun y => []) [_] (fun y => []) [] (fun y => True) ⟨rfl, rfl, trivial⟩ [0] rfl [] rfl ?_ ?_
 ·rintro _ _
  refine .prune [(10, .bool (decide ((2 ≤ x0_0) ∧ (x0_0 ≤ 10)))), (1, _), (2, _)] ⟨rfl, rfl, rfl, trivial⟩ (.same (bl' := [_]) (sl' := []) (Fs' := G :: Fs) rfl rfl rfl (.mv rfl rfl ?_))
  refine .cutR 4 (β := Unit) (fun y => [(15, .bool (decide (((2 ≤ x0_0) ∧ (x0_0 ≤ 10)) ∧ (1 ≤ x0_1))))]) [(1, _), (2, _)] (fun y => G :: Fs) (fun y => []) [_] (fun y => []) [] (fun y => True) ⟨rfl, rfl, trivial⟩ [0] rfl [] rfl ?_ ?_
  ·rintro _ _
   refine .prune [(15, .bool (decide (((2 ≤ x0_0) ∧ (x0_0 ≤ 10)) ∧ (1 ≤ x0_1)))), (1, _), (2, _)] ⟨rfl, rfl, rfl, trivial⟩ (.same (bl' := [_]) (sl' := []) (Fs' := G :: Fs) rfl rfl rfl (.mv rfl rfl ?_))
   refine .cutR 6 (β := Unit) (fun y => [(22, .bool (decide ((((2 ≤ x0_0) ∧ (x0_0 ≤ 10)) ∧ (1 ≤ x0_1)) ∧ (x0_1 < x0_0))))]) [(2, _)] (fun y => G :: Fs) (fun y => []) [_] (fun y => []) [] (fun y => True) ⟨rfl, trivial⟩ [0] rfl [] rfl ?_ ?_
   ·rintro _ _
    refine .prune [(22, .bool (decide ((((2 ≤ x0_0) ∧ (x0_0 ≤ 10)) ∧ (1 ≤ x0_1)) ∧ (x0_1 < x0_0)))), (2, _)] ⟨rfl, rfl, trivial⟩ (.same (bl' := [_]) (sl' := []) (Fs' := G :: Fs) rfl rfl rfl (.av rfl rfl (.re ?_)))
    cases h
    refine .drop 1 0 [] _ rfl rfl ?_
    refine .retS (.inr ⟨_, rfl⟩) [.tmp 2] [_] rfl Tryz.func146 Tryz.results146 ⟨RV.tmp rfl, trivial⟩ mcm ⟨rfl, rfl, rfl⟩
   ·intro hb11
    refine .split 16 rfl (fun c10 => ?_) (fun c10 => ?_)
    ·refine .g_on rfl ?_
     refine .q .ro (.fieldAddr 1 rfl fl69_1 ty3.sz rfl) rfl (.g_on rfl (.q .ro (.load_own 0 rfl rfl ty3 rfl) rfl (.g_on rfl (.q .ro (.fieldAddr 0 rfl fl69_0 ty3.sz rfl) rfl (.g_on rfl (.q .ro (.load_own 0 rfl rfl ty3 rfl) rfl (.g_on rfl (.q .ro (.lss rfl rfl) rfl (.q .ro (.pick_t rfl rfl) rfl ?_)))))))))
     exact .arr (hb11 () trivial) ⟨dand_t c10, rfl, trivial⟩
    ·refine .g_off rfl rfl rfl ?_
     refine .g_off rfl rfl rfl (.g_off rfl rfl rfl (.g_off rfl rfl rfl (.g_off rfl rfl rfl (.q .ro (.pick_f rfl rfl) rfl ?_))))
     exact .arr (hb11 () trivial) ⟨dand_f c10, rfl, trivial⟩
  ·intro hb7
   refine .split 11 rfl (fun c6 => ?_) (fun c6 => ?_)
   ·refine .g_on rfl ?_
    refine .q .ro (.fieldAddr 1 rfl fl69_1 ty3.sz rfl) rfl (.g_on rfl (.q .ro (.load_own 0 rfl rfl ty3 rfl) rfl (.g_on rfl (.q .ro (.geq rfl rfl) rfl (.q .ro (.pick_t rfl rfl) rfl ?_)))))
    exact .arr (hb7 () trivial) ⟨dand_t c6, rfl, rfl, trivial⟩
   ·refine .g_off rfl rfl rfl ?_
    refine .g_off rfl rfl rfl (.g_off rfl rfl rfl (.q .ro (.pick_f rfl rfl) rfl ?_))
    exact .arr (hb7 () trivial) ⟨dand_f c6, rfl, rfl, trivial⟩
 ·intro hb3
  refine .split 6 rfl (fun c2 => ?_) (fun c2 => ?_)
  ·refine .g_on rfl ?_
   refine .q .ro (.fieldAddr 0 rfl fl69_0 ty3.sz rfl) rfl (.g_on rfl (.q .ro (.load_own 0 rfl rfl ty3 rfl) rfl (.g_on rfl (.q .ro (.leq rfl rfl) rfl (.q .ro (.pick_t rfl rfl) rfl ?_)))))
   exact .arr (hb3 () trivial) ⟨dand_t c2, rfl, rfl, trivial⟩
  ·refine .g_off rfl rfl rfl ?_
   refine .g_off rfl rfl rfl (.g_off rfl rfl rfl (.q .ro (.pick_f rfl rfl) rfl ?_))
   exact .arr (hb3 () trivial) ⟨dand_f c2, rfl, rfl, trivial⟩
theorem curve_Check_c {Fs : List Hp} {G : Hp} {x0_0 : Int} {x1_0 : Int} {x1_1 : Int} {r : Int} (hG : G ∈ Fs)  (h : curve_Check x0_0 (x1_0, x1_1) = some r) : RetS Tryz.prog 113 #[.agg #[.int .i64 x0_0], .agg #[.int .i64 x1_0, .int .i64 x1_1]] Fs [] [] (fun v bo so => v = .int .i64 r ∧ bo = [] ∧ so = []) := by
 unfold curve_Check at h
 try dsimp only at h
 refine RetS.of (vs := [_, _]) Tryz.func113 rfl Tryz.ntmps113 [(0, _), (1, _)] ⟨rfl, rfl, trivial⟩ rfl hG fun w0 S0 hS0 B0 => ?_
 refine .seq (.region rfl ?_)
 refine .box [_] .ro rfl rfl rfl (fun b1 hb1 => ?_)
 refine .box [_, _] .ro rfl rfl rfl (fun b2 hb2 => ?_)
 refine .av rfl rfl (.re (.seq (.seq (.region rfl (.q .ro (.load_own_a 1 [_] rfl rfl ty45 rfl) rfl ?_)))))
 obtain ⟨u3, hu3, r4⟩ := bind_some h
 refine .callS (b1 := []) (b2 := [_, _]) (s1 := []) [_] [] .ro rfl rfl Tryz.call72 rfl rfl (residue_Of_c (G := G) mcs  hu3) rfl (fun v6 bo so h5 => ?_)
 obtain ⟨rfl, rfl, rfl⟩ := h5
 refine .same (bl' := [_, _]) (sl' := []) rfl rfl rfl (.mv rfl rfl (.q .ro (.extract rfl rfl) rfl (.q .ro (.extract rfl rfl) rfl (.av rfl rfl (.av rfl rfl (.re (.seq (.region rfl (.mv rfl rfl (.q .ro (.not rfl) rfl (.re ?_)))))))))))
 refine .cond rfl (fun c7 => ?_) (fun c7 => ?_)
 ·have r8 := ifT r4 c7; clear r4
  exact absurd r8 (by simp)
 ·have r9 := ifBF r4 c7; clear r4
  refine .skip (.seq (.seq (.region rfl (.q .ro (.load_own_a 0 [_, _] rfl rfl ty69 rfl) rfl ?_))))
  obtain ⟨u10, hu10, r11⟩ := bind_some r9
  refine .callS (b1 := []) (b2 := [_, _]) (s1 := []) [_] [] .ro rfl rfl Tryz.call146 rfl rfl (curve_valid_c (G := G) mcs  hu10) rfl (fun v13 bo so h12 => ?_)
  obtain ⟨rfl, rfl, rfl⟩ := h12
  refine .same (bl' := [_, _]) (sl' := []) rfl rfl rfl (.q .ro (.not rfl) rfl (.mv rfl rfl ?_))
  refine .cutR 6 (β := Unit) (fun y => [(23, .bool (decide (((!u10) = true) ∨ (x0_0 ≤ x1_0))))]) [] (fun y => G :: Fs) (fun y => []) [_, _] (fun y => []) [] (fun y => True) trivial [0, 1] rfl [] rfl ?_ ?_
  ·rintro _ _
   refine .prune [(23, .bool (decide (((!u10) = true) ∨ (x0_0 ≤ x1_0))))] ⟨rfl, trivial⟩ (.same (bl' := [_, _]) (sl' := []) (Fs' := G :: Fs) rfl rfl rfl (.re ?_))
   refine .cond_dec rfl (fun c18 => ?_) (fun c18 => ?_)
   ·have r19 := ifT r11 c18; clear r11
    exact absurd r19 (by simp)
   ·have r20 := ifF r11 c18; clear r11
    refine .skip (.seq (.region rfl (.av rfl rfl (.re ?_))))
    cases r20
    refine .drop 2 0 [] _ rfl rfl ?_
    refine .retS (.inr ⟨_, rfl⟩) [.tmp 4] [_] rfl Tryz.func113 Tryz.results113 ⟨RV.tmp rfl, trivial⟩ mcm ⟨rfl, rfl, rfl⟩
  ·intro hb15
   refine .split_b 17 rfl (fun c14 => ?_) (fun c14 => ?_)
   ·refine .g_off rfl rfl rfl ?_
    refine .g_off rfl rfl rfl (.g_off rfl rfl rfl (.g_off rfl rfl rfl (.g_off rfl rfl rfl (.q .ro (.pick_t rfl rfl) rfl ?_))))
    exact .arr (hb15 () trivial) ⟨dor_t c14, trivial⟩
   ·refine .g_on rfl ?_
    refine .q .ro (.fieldAddr 0 rfl fl69_0 ty3.sz rfl) rfl (.g_on rfl (.q .ro (.load_own 0 rfl rfl ty3 rfl) rfl (.g_on rfl (.q .ro (.fieldAddr 0 rfl fl45_0 ty3.sz rfl) rfl (.g_on rfl (.q .ro (.load_own 1 rfl rfl ty3 rfl) rfl (.g_on rfl (.q .ro (.geq rfl rfl) rfl (.q .ro (.pick_f rfl rfl) rfl ?_)))))))))
    exact .arr (hb15 () trivial) ⟨dor_f (bne_of c14), trivial⟩
theorem curve_check_c {Fs : List Hp} {G : Hp} {x0_0 : Int} {x1_0 : Int} {x1_1 : Int} {x2 : Int} {r : Int} (hG : G ∈ Fs)  (h : curve_check x0_0 (x1_0, x1_1) x2 = some r) : RetS Tryz.prog 111 #[.agg #[.int .i64 x0_0], .agg #[.int .i64 x1_0, .int .i64 x1_1], .int .i64 x2] Fs [] [] (fun v bo so => v = .int .i64 r ∧ bo = [] ∧ so = []) := by
 unfold curve_check at h
 try dsimp only at h
 refine RetS.of (vs := [_, _, _]) Tryz.func111 rfl Tryz.ntmps111 [(0, _), (1, _), (2, _)] ⟨rfl, rfl, rfl, trivial⟩ rfl hG fun w0 S0 hS0 B0 => ?_
 refine .seq (.region rfl ?_)
 refine .box [_] .ro rfl rfl rfl (fun b1 hb1 => ?_)
 refine .box [_, _] .ro rfl rfl rfl (fun b2 hb2 => ?_)
 refine .av rfl rfl (.re (.seq (.region rfl (.q .ro (.load_own_a 1 [_] rfl rfl ty45 rfl) rfl (.q .ro (.load_own_a 0 [_, _] rfl rfl ty69 rfl) rfl ?_)))))
 obtain ⟨u3, hu3, r4⟩ := bind_some h
 refine .callS (b1 := []) (b2 := [_, _]) (s1 := []) [_, _] [] .ro rfl rfl Tryz.call113 rfl rfl (curve_Check_c (G := G) mcs  hu3) rfl (fun v6 bo so h5 => ?_)
 obtain ⟨rfl, rfl, rfl⟩ := h5
 refine .same (bl' := [_, _]) (sl' := []) rfl rfl rfl (.av rfl rfl (.re (.seq (.seq (.region rfl (.mv rfl rfl (.q .ro (.eql rfl rfl) rfl (.mv rfl rfl ?_))))))))
 refine .cutR 7 (β := Unit) (fun y => [(20, .bool (decide ((u3 = 0) ∧ ((x2 < 1) ∨ (1024 < x2)))))]) [(7, _)] (fun y => G :: Fs) (fun y => []) [_, _] (fun y => []) [] (fun y => True) ⟨rfl, trivial⟩ [0, 1] rfl [] rfl ?_ ?_
 ·rintro _ _
  refine .prune [(20, .bool (decide ((u3 = 0) ∧ ((x2 < 1) ∨ (1024 < x2))))), (7, _)] ⟨rfl, rfl, trivial⟩ (.same (bl' := [_, _]) (sl' := []) (Fs' := G :: Fs) rfl rfl rfl (.re ?_))
  refine .cond_dec rfl (fun c15 => ?_) (fun c15 => ?_)
  ·have r16 := ifT r4 c15; clear r4
   exact absurd r16 (by simp)
  ·have r17 := ifF r4 c15; clear r4
   refine .skip (.seq (.region rfl (.mv rfl rfl (.av rfl rfl (.re ?_)))))
   cases r17
   refine .drop 2 0 [] _ rfl rfl ?_
   refine .retS (.inr ⟨_, rfl⟩) [.tmp 6] [_] rfl Tryz.func111 Tryz.results111 ⟨RV.tmp rfl, trivial⟩ mcm ⟨rfl, rfl, rfl⟩
 ·intro hb12
  refine .split 13 rfl (fun c11 => ?_) (fun c11 => ?_)
  ·refine .g_on rfl ?_
   refine .mv rfl rfl (.g_on rfl (.q .ro (.lss rfl rfl) rfl (.g_on rfl (.mv rfl rfl ?_))))
   refine .cutR 3 (β := Unit) (fun y => [(19, .bool (decide ((x2 < 1) ∨ (1024 < x2))))]) [(7, _), (13, _)] (fun y => G :: Fs) (fun y => []) [_, _] (fun y => []) [] (fun y => True) ⟨rfl, rfl, trivial⟩ [0, 1] rfl [] rfl ?_ ?_
   ·rintro _ _
    refine .prune [(19, .bool (decide ((x2 < 1) ∨ (1024 < x2)))), (7, _), (13, _)] ⟨rfl, rfl, rfl, trivial⟩ (.same (bl' := [_, _]) (sl' := []) (Fs' := G :: Fs) rfl rfl rfl (.q .ro (.pick_t rfl rfl) rfl ?_))
    exact .arr (hb12 () trivial) ⟨dand_t c11, rfl, trivial⟩
   ·intro hb19
    refine .split 16 rfl (fun c18 => ?_) (fun c18 => ?_)
    ·refine .g_off rfl rfl rfl ?_
     refine .g_off rfl rfl rfl (.g_on rfl (.q .ro (.pick_t rfl rfl) rfl ?_))
     exact .arr (hb19 () trivial) ⟨dor_t c18, rfl, rfl, trivial⟩
    ·refine .g_on rfl ?_
     refine .mv rfl rfl (.g_on rfl (.q .ro (.gtr rfl rfl) rfl (.g_on rfl (.q .ro (.pick_f rfl rfl) rfl ?_))))
     exact .arr (hb19 () trivial) ⟨dor_f c18, rfl, rfl, trivial⟩
  ·refine .g_off rfl rfl rfl ?_
   refine .g_off rfl rfl rfl (.g_off rfl rfl rfl (.gu_off rfl rfl (.gu_off rfl rfl (.g_off rfl rfl rfl (.q .ro (.pick_f rfl rfl) rfl ?_)))))
   exact .arr (hb12 () trivial) ⟨dand_f c11, rfl, trivial⟩
theorem share_threshold_c {Fs : List Hp} {G : Hp} {x0 : Int} {r : Bool} (hG : G ∈ Fs)  (h : share_threshold x0 = some r) : RetS Tryz.prog 144 #[.int .i64 x0] Fs [] [] (fun v bo so => v = .bool r ∧ bo = [] ∧ so = []) := by
 unfold share_threshold at h
 try dsimp only at h
 refine RetS.of (vs := [_]) Tryz.func144 rfl Tryz.ntmps144 [(0, _)] ⟨rfl, trivial⟩ rfl hG fun w0 S0 hS0 B0 => ?_
 refine .seq (.region rfl (.av rfl rfl (.re (.seq (.region rfl (.mv rfl rfl (.q .ro (.geq rfl rfl) rfl (.mv rfl rfl ?_))))))))
 refine .cutR 3 (β := Unit) (fun y => [(8, .bool (decide ((0 ≤ x0) ∧ (x0 ≤ 9))))]) [(2, _)] (fun y => G :: Fs) (fun y => []) [] (fun y => []) [] (fun y => True) ⟨rfl, trivial⟩ [] rfl [] rfl ?_ ?_
 ·rintro _ _
  refine .prune [(8, .bool (decide ((0 ≤ x0) ∧ (x0 ≤ 9)))), (2, _)] ⟨rfl, rfl, trivial⟩ (.same (bl' := []) (sl' := []) (Fs' := G :: Fs) rfl rfl rfl (.av rfl rfl (.re ?_)))
  cases h
  refine .retS (.inr ⟨_, rfl⟩) [.tmp 2] [_] rfl Tryz.func144 Tryz.results144 ⟨RV.tmp rfl, trivial⟩ mcm ⟨rfl, rfl, rfl⟩
 ·intro hb2
  refine .split 5 rfl (fun c1 => ?_) (fun c1 => ?_)
  ·refine .g_on rfl ?_
   refine .mv rfl rfl (.g_on rfl (.q .ro (.leq rfl rfl) rfl (.q .ro (.pick_t rfl rfl) rfl ?_)))
   exact .arr (hb2 () trivial) ⟨dand_t c1, rfl, trivial⟩
  ·refine .g_off rfl rfl rfl ?_
   refine .g_off rfl rfl rfl (.q .ro (.pick_f rfl rfl) rfl ?_)
   exact .arr (hb2 () trivial) ⟨dand_f c1, rfl, trivial⟩
theorem slices_Backward_Lintint_f1_i {Fs : List Hp} {G : Hp} {p1 : Value} {a1 : Option Addr} {k1 : Nat} {x1 : List Int} {l : (List (Int × Int))} (hG : G ∈ Fs) (hp1 : Rp G p1 [.slice a1 x1.length k1]) (s1 : SlR ri G a1 k1 x1) (h : slices_Backward_Lintint_f1 x1 = some l) : IterX Tryz.prog 142 [p1] Fs l.length (fun i v => ∃ x, l[i]? = some x ∧ (Yr.pair (Yr.v ri) (Yr.v ri)).r G v x) := by
 unfold slices_Backward_Lintint_f1 at h
 try dsimp only at h
 intro y 𝒢 ℰ R0 hy hR0
 refine RetG.of (vs := [_, _]) Tryz.func142 rfl Tryz.ntmps142 [(0, _), (1, _)] ⟨rfl, rfl, trivial⟩ rfl fun w0 => Cov.dup hG ?_
 have B0 : Bd w0 (blks [] [.g R0]) Fs G := Bd.fin hG
 generalize hS0 : blks [] [.g R0] = S0 at B0 ⊢
 replace h : _ = some (List.drop 0 l) := h
 refine .seq (.region rfl (.q .ro (.load_rp hp1 mcs rfl ty22 rfl) rfl (.q .ro (.len_sl rfl rfl sl22) rfl (.q .ro (.subw rfl rfl) rfl (.av rfl rfl (.re (.block ?_)))))))
 refine .loop2 (α := Nat × Guest × Nat × Int) (fun y => [(3, .int .i64 y.2.2.2)]) [(0, _), (1, _)] (fun y => []) (fun y => []) [] (fun y => [.g y.2.1]) [] (fun y => 𝒢 y.2.2.1 y.2.1 ∧ y.2.2.1 ≤ l.length ∧ slices_Backward_Lintint_f1_L1 x1 y.1 y.2.2.2 = some (List.drop y.2.2.1 l)) (fun y => y.1) (big, R0, 0, (w64 ((x1.length : Int) - 1))) ⟨hR0, (Nat.zero_le _), h⟩ ⟨rfl, rfl, rfl, trivial⟩ rfl rfl rfl (fun y hI hb25 => ?_)
 obtain ⟨n17, R19, i20, v23⟩ := y
 obtain ⟨hR21, le22, r24⟩ := hI
 try dsimp only at hR21 le22 r24
 refine .prune [(3, .int .i64 v23), (0, _), (1, _)] ⟨rfl, rfl, rfl, trivial⟩ (.same (bl' := []) (sl' := [.g R19]) (Fs' := G :: Fs) rfl rfl rfl ?_)
 obtain ⟨m28, rfl⟩ : ∃ m, n17 = m + 1 := by cases n17 with | zero => exact absurd (show (none : Option _) = some _ from r24) (by simp) | succ m => exact ⟨m, rfl⟩
 have r27 : slices_Backward_Lintint_f1_B1 x1 (slices_Backward_Lintint_f1_L1 x1 m28) v23 = some (List.drop i20 l) := r24; clear r24; unfold slices_Backward_Lintint_f1_B1 at r27; try dsimp only at r27
 refine .seq (.seq (.region rfl (.mv rfl rfl (.q .ro (.geq rfl rfl) rfl (.re ?_)))))
 refine .cond_dec rfl (fun c29 => ?_) (fun c29 => ?_)
 ·have r30 := ifT r27 c29; clear r27
  refine .skip (.seq (.block (.seq (.region rfl (.mv rfl rfl (.mv rfl rfl (.q .ro (.load_rp hp1 mcs rfl ty22 rfl) rfl (.mv rfl rfl ?_))))))))
  obtain ⟨u31, hu31, r32⟩ := bind_some r30
  obtain ⟨c33, p34, h35⟩ := SlR.get s1 hu31
  obtain rfl := h35
  refine .q .ro (.idxR s1 rfl rfl hu31 sl22 ty3.sz) rfl (.q .ro (.load_rp p34 mcs rfl ty3 rfl) rfl ?_)
  obtain ⟨h36, r37⟩ := yc_some r32; clear r32
  refine .yieldX hy ⟨_, h36, ⟨[_], _, rfl, ⟨_, rfl, ((Rep.intI .i64 v23) :)⟩, ⟨_, rfl, ((Rep.intI .i64 u31) :)⟩⟩⟩ hR21 mcm rfl rfl rfl (fun R38 hR39 => ?_) (fun R40 hE41 => ?_)
  ·refine .q .ro (.not_t rfl) rfl ?_
   refine .re (.cond_false rfl (.skip (.inBlock (.region rfl (.mv rfl rfl (.q .ro (.subw rfl rfl) rfl (.av rfl rfl (.re ?_))))))))
   exact .arr (hb25 (m28, R38, (i20 + 1), (w64 (v23 - 1))) ⟨hR39, (yc_le h36), r37⟩ (Nat.lt_succ_self _)) ⟨rfl, rfl, rfl, trivial⟩
  ·refine .q .ro (.not_f rfl) rfl ?_
   refine .re (.cond_true rfl ?_)
   refine .leave (.inr ⟨_, rfl⟩) [] [] rfl Tryz.func142 Tryz.results142 trivial mcm (.inl rfl) (fresh_emp _) ⟨rfl, R40, .inr hE41, rfl⟩
 ·have r42 := ifF r27 c29; clear r27
  refine .exit rfl ?_
  have hi := yc_end r42 le22
  refine .leave (.inl rfl) [] [] rfl Tryz.func142 Tryz.results142 trivial mcm (.inl rfl) (fresh_emp _) ⟨rfl, R19, .inl (hi ▸ hR21), rfl⟩
theorem slices_Backward_Lintint_c {Fs : List Hp} {G : Hp} {a0 : Option Addr} {k0 : Nat} {x0 : List Int} {r : (List (Int × Int))} (hG : G ∈ Fs) (s0 : SlR ri G a0 k0 x0) (h : slices_Backward_Lintint x0 = some r) : RetW Tryz.prog 108 #[.slice a0 x0.length k0] Fs [] [] (fun v bo so G => ∃ (Fi0 : FuncId) (ci0 : List Value), v = .func (.func Fi0) #[] ci0.toArray ∧ bo = [] ∧ so = [] ∧ (∀ args w, (callFunc Fi0 args).run Tryz.prog w = .ok (.enter Fi0 args) w) ∧ IterRX Tryz.prog (Yr.pair (Yr.v ri) (Yr.v ri)) Fi0 ci0 G r) := by
 unfold slices_Backward_Lintint at h
 try dsimp only at h
 refine RetW.of (vs := [_]) Tryz.func108 rfl Tryz.ntmps108 [(0, _)] ⟨rfl, trivial⟩ rfl hG fun w0 S0 hS0 B0 => ?_
 refine .seq (.region rfl ?_)
 refine .box [_] .ro rfl rfl rfl (fun b1 hb1 => ?_)
 refine .av rfl rfl (.re (.seq (.region rfl (.q .ro (.makeFunc (vf := []) (vc := [_]) rfl rfl) rfl (.av rfl rfl (.re ?_))))))
 refine .freezeBR 0 rfl [] rfl B0 (fun G2 e3 B4 p5 => ?_)
 obtain ⟨u7, hu7, r8⟩ := bind_some h
 cases r8
 refine .retW (.inr ⟨_, rfl⟩) [.tmp 2] [_] rfl Tryz.func108 Tryz.results108 ⟨RV.tmp rfl, trivial⟩ mcm mcs B4 (by subst hS0; simp [blks]) (fun G' hg => ⟨_, _, rfl, rfl, rfl, Tryz.call142, (fun Fs' G1 hle hm => slices_Backward_Lintint_f1_i (G := G1) hm (Rp.mono (HpLe.trans hg hle) p5) (SlR.mono (HpLe.trans hg hle) (SlR.mono e3 s0)) hu7)⟩)
theorem residue_Field_Value_c {Fs : List Hp} {G : Hp} {x0 : Int} {a1 : Option Addr} {k1 : Nat} {x1 : List Int} {x2 : Int} {r : Int} (hG : G ∈ Fs) (s1 : SlR ri G a1 k1 x1) (h : residue_Field_Value x0 x1 x2 = some r) : RetS Tryz.prog 79 #[.int .i64 x0, .slice a1 x1.length k1, .int .i64 x2] Fs [] [] (fun v bo so => v = .int .i64 r ∧ bo = [] ∧ so = []) := by
 unfold residue_Field_Value at h
 try dsimp only at h
 refine RetS.of (vs := [_, _, _]) Tryz.func79 rfl Tryz.ntmps79 [(0, _), (1, _), (2, _)] ⟨rfl, rfl, rfl, trivial⟩ rfl hG fun w0 S0 hS0 B0 => ?_
 refine .marks0 (.seq (.region rfl ?_))
 refine .box [_] .ro rfl rfl rfl (fun b1 hb1 => ?_)
 refine .box [_] .ro rfl rfl rfl (fun b2 hb2 => ?_)
 refine .av rfl rfl (.re (.seq (.region rfl ?_)))
 refine .alloc .ro ty3 rfl (fun b3 hb3 => ?_)
 refine .store 0 [_] [_, _, _] .ro rfl rfl rfl ty3 rfl rfl rfl rfl (.re (.seq (.seq (.region rfl (.mv rfl rfl ?_)))))
 obtain ⟨u4, hu4, r5⟩ := bind_some h
 refine .callW (b1 := []) (b2 := [_, _, _]) (s1 := []) [_] [] .ro rfl rfl Tryz.call108 rfl rfl (slices_Backward_Lintint_c (G := G) mcs s1 hu4) rfl B0 (fun v7 bo so G8 e9 B10 h6 => ?_)
 obtain ⟨F12, c13, rfl, rfl, rfl, hc14, hi15⟩ := h6
 refine .same (bl' := [_, _, _]) (sl' := [_]) rfl rfl rfl (.re ?_)
 refine .cutBD (β := MK × Int) (fun y => mks y.1.1) (fun y => []) [(7, _)] (fun y => G8 :: Fs) (fun y => [(b3, .cells #[.int .i64 y.2] 3 (0, 0))]) [_, _] (fun y => [.g (marksG y.1)]) [] (fun y => residue_Field_Value_J1 y.2 = some r) ⟨rfl, trivial⟩ [1, 2] rfl [] rfl ?_ ?_
 ·intro y hI
  obtain ⟨mk67, v68⟩ := y
  have r70 := hI; clear hI
  try dsimp only at r70
  refine .prune [(7, _)] ⟨rfl, trivial⟩ (.same (bl' := [(b3, .cells #[.int .i64 v68] 3 (0, 0)), _, _]) (sl' := [.g (marksG mk67)]) (Fs' := G8 :: Fs) rfl rfl rfl ?_)
  unfold residue_Field_Value_J1 at r70
  try dsimp only at r70
  refine .seq (.region rfl (.q .ro (.load_own 0 rfl rfl ty3 rfl) rfl (.av rfl rfl (.re ?_))))
  cases r70
  refine .drop 3 0 [] _ rfl rfl ?_
  refine .out (.inr ⟨_, rfl⟩) rfl (Cov.unmarkAll _ _ ?_)
  refine .outS [.tmp 6] [_] Tryz.func79 Tryz.results79 ⟨RV.tmp rfl, trivial⟩ mcm ⟨rfl, rfl, rfl⟩
 ·intro hb73
  refine .block (.pull 2 rfl [_, _, _] rfl (.pull 2 rfl [_, _, _] rfl (.pull 2 rfl [_, _, _] rfl ?_)))
  refine .rangeX (α := Int) (β := Unit) (fun y => []) (fun y => [(b3, .cells #[.int .i64 y] 3 (0, 0)), (b2, .cells #[.int .i64 x2] 3 (0, 0)), (b1, .cells #[.int .i64 x0] 140 (0, 0))]) (fun y => []) (fun _ => []) (fun _ => []) (fun _ => []) (fun _ => .skip) (fun i y => residue_Field_Value_L2 residue_Field_Value_J1 x0 x2 (List.drop i u4) y = some r) (fun _ => False) (0)  c13 rfl rfl hc14 rfl (by simp) rfl rfl (hi15 _ G8 (HpLe.refl _) mcs) (fun _ _ hv => by obtain ⟨_, _, hv⟩ := hv; exact (Yr.len _ hv).trans rfl) (by kernel_rfl) r5 ?_ ?_ (fun _ _ h => h.elim)
  ·intro l92 tm93 D94 i95 v89 v96 hV97 hI w99 S11 hw16
   have r91 := hI; clear hI
   obtain ⟨x17, h18, h19⟩ := hV97
   refine .dup (G := G8) mcs ?_
   obtain ⟨_, _, rfl, h20, h21⟩ := h19
   obtain ⟨v22, rfl, h23⟩ := h20
   obtain ⟨rfl, _⟩ := List.cons.inj h23
   obtain ⟨v24, rfl, h25⟩ := h21
   obtain ⟨rfl, _⟩ := List.cons.inj h25
   rw [drop_cons h18] at r91
   have r26 : residue_Field_Value_B2 residue_Field_Value_J1 x0 x2 (residue_Field_Value_L2 residue_Field_Value_J1 x0 x2 (List.drop (i95 + 1) u4)) x17 v89 = some r := r91; clear r91; unfold residue_Field_Value_B2 at r26; try dsimp only at r26
   refine .prune [(12, .int .i64 x17.1), (13, .int .i64 x17.2), (3, _), (5, _), (7, _)] ⟨rfl, rfl, rfl, rfl, rfl, trivial⟩ (.same (bl' := [(b3, .cells #[.int .i64 v89] 3 (0, 0)), (b2, .cells #[.int .i64 x2] 3 (0, 0)), (b1, .cells #[.int .i64 x0] 140 (0, 0)), _]) (sl' := []) (Fs' := G8 :: (G8 :: Fs)) rfl rfl rfl (.region rfl (.av rfl rfl (.re (.beginRound 3 rfl rfl [_, _, _, _] rfl (.block (.drawL (.q 0 (.q 1 (.q 2 (.q 3 (.q 5 (.e 4 1 (.e 6 2 (.e 7 2 .nil)))))))) [_, _, _, _] (by kernel_rfl) (by kernel_rfl) (pick_mem [0, 1, 2, 3] rfl) (.dq (.load_own 2 rfl rfl ty140 rfl) rfl (.dq (.load_own 2 rfl rfl ty140 rfl) rfl (.dq (.load_own 0 rfl rfl ty3 rfl) rfl (.dq (.load_own 1 rfl rfl ty3 rfl) rfl (.dq (.move rfl) rfl ?_))))))))))))
   obtain ⟨u27, hu27, r28⟩ := bind_some r26
   refine .callS (b1 := []) (b2 := [_, _, _, _]) (s1 := []) [_, _, _] [] .d1 rfl rfl Tryz.call77 rfl rfl (residue_Field_Mul_c (G := G8) mcs  hu27) rfl (fun v29 bo so h30 => ?_)
   obtain ⟨rfl, rfl, rfl⟩ := h30
   refine .same (bl' := [_, _, _, _]) (sl' := []) rfl rfl rfl (.clsL (HpLe.refl _) (pick_mem [0, 1, 2, 3] rfl) ?_)
   obtain ⟨u31, hu31, r32⟩ := bind_some r28
   refine .callS (b1 := []) (b2 := [_, _, _, _]) (s1 := []) [_, _, _] [] .d2 rfl rfl Tryz.call80 rfl rfl (residue_Field_Add_c (G := G8) mcs  hu31) rfl (fun v33 bo so h34 => ?_)
   obtain ⟨rfl, rfl, rfl⟩ := h34
   refine .same (bl' := [_, _, _, _]) (sl' := []) rfl rfl rfl (.store 0 [_] [_, _, _, _] .d2 rfl rfl rfl ty3 rfl rfl rfl rfl (.draw_end (.prune [] trivial (.inBlock ?_))))
   refine .round_endX (u31) 3 rfl rfl r32 rfl rfl (fun F hF => List.mem_cons_of_mem _ hF) (by simp)
  ·intro q35 v89 hI hb36
   have r91 := hI; clear hI
   refine .prune [(7, _)] ⟨rfl, trivial⟩ (.same (bl' := [(b3, .cells #[.int .i64 v89] 3 (0, 0)), (b2, .cells #[.int .i64 x2] 3 (0, 0)), (b1, .cells #[.int .i64 x0] 140 (0, 0)), _]) (sl' := [_]) (Fs' := G8 :: Fs) rfl rfl rfl ?_)
   refine .mkmerge 3 rfl [_, _, _] rfl (fun mk37 => ?_)
   rw [List.drop_length] at r91; rw [residue_Field_Value_L2] at r91; try dsimp only at r91
   refine .inBlock ?_
   exact .arr (hb73 (mk37, v89) r91) ⟨rfl, trivial⟩
theorem share_shares_c {Fs : List Hp} {G : Hp} {x0 : Int} {a1 : Option Addr} {k1 : Nat} {x1 : List Int} {a2 : Option Addr} {k2 : Nat} {x2 : List Int} {r : (List (Int × Int))} (hG : G ∈ Fs) (s1 : SlR ri G a1 k1 x1) (s2 : SlR ri G a2 k2 x2) (h : share_shares x0 x1 x2 = some r) : RetS Tryz.prog 145 #[.int .i64 x0, .slice a1 x1.length k1, .slice a2 x2.length k2] Fs [] [] (fun v bo so => ∃ (oa0 : Option Addr) (ok0 : Nat) (oc0 : List Value), v = .slice oa0 r.length ok0 ∧ bo = [] ∧ so = [.s (.slice oa0 r.length ok0) 168 2 r.length oc0] ∧ OL (Rep.pair ri ri) G oc0 r) := by
 unfold share_shares at h
 try dsimp only at h
 refine RetS.of (vs := [_, _, _]) Tryz.func145 rfl Tryz.ntmps145 [(0, _), (1, _), (2, _)] ⟨rfl, rfl, rfl, trivial⟩ rfl hG fun w0 S0 hS0 B0 => ?_
 refine .seq (.region rfl (.av rfl rfl (.re (.seq (.region rfl (.av rfl rfl (.re (.seq (.seq (.region rfl (.mv rfl rfl (.q .ro (.len_sl rfl rfl sl22) rfl (.mv rfl rfl (.re (.block (.own_nil 168 2 ?_))))))))))))))))
 refine .loop2 (α := Nat × List Int × (List (Int × Int)) × Option Addr × Nat × List Value) (fun y => [(7, .slice y.2.2.2.1 y.2.2.1.length y.2.2.2.2.1), (12, .int .i64 (y.1 : Int))]) [(0, _), (1, _), (10, _), (11, _)] (fun y => []) (fun y => []) [] (fun y => [.s (.slice y.2.2.2.1 y.2.2.1.length y.2.2.2.2.1) 168 2 y.2.2.1.length y.2.2.2.2.2]) [] (fun y => OL (Rep.pair ri ri) G y.2.2.2.2.2 y.2.2.1 ∧ List.drop y.1 x2 = y.2.1 ∧ share_shares_L1 x0 x1 y.2.1 y.2.2.1 = some r) (fun y => y.2.1.length) (0, x2, ([] : List (Int × Int)), none, 0, []) ⟨(OL.nil (Rp' := (Rep.pair ri ri))), rfl, h⟩ ⟨rfl, rfl, rfl, rfl, rfl, rfl, trivial⟩ rfl rfl rfl (fun y hI hb65 => ?_)
 obtain ⟨i55, w56, v58, a59, k60, cs61⟩ := y
 obtain ⟨o62, g57, r64⟩ := hI
 try dsimp only at o62 g57 r64
 refine .prune [(7, .slice a59 v58.length k60), (12, .int .i64 (i55 : Int)), (0, _), (1, _), (10, _), (11, _)] ⟨rfl, rfl, rfl, rfl, rfl, rfl, trivial⟩ (.same (bl' := []) (sl' := [.s (.slice a59 v58.length k60) 168 2 v58.length cs61]) (Fs' := G :: Fs) rfl rfl rfl ?_)
 cases w56 with
 | nil =>
  rw [share_shares_L1] at r64; try dsimp only at r64
  refine .seq (.region rfl (.q .ro (.lss rfl rfl) rfl (.re (.seq ?_))))
  refine .cond_dec rfl (fun c => absurd c (drop_nil g57)) (fun _ => ?_)
  refine .exit rfl (.seq (.region rfl (.mv rfl rfl (.av rfl rfl (.re ?_)))))
  cases r64
  refine .retS (.inr ⟨_, rfl⟩) [.tmp 6] [_] rfl Tryz.func145 Tryz.results145 ⟨RV.tmp rfl, trivial⟩ mcm ⟨a59, k60, cs61, rfl, rfl, rfl, o62⟩
 | cons x71 xs72 =>
  have r70 : share_shares_B1 x0 x1 (share_shares_L1 x0 x1 xs72) x71 v58 = some r := r64; clear r64; unfold share_shares_B1 at r70; try dsimp only at r70
  refine .seq (.region rfl (.q .ro (.lss rfl rfl) rfl (.re (.seq ?_))))
  refine .cond_dec rfl (fun _ => ?_) (fun c => absurd (drop_lt g57) c)
  refine .skip (.seq (.block (.seq (.region rfl ?_))))
  obtain ⟨c73, p74, h75⟩ := SlR.get s2 (drop_idx g57)
  obtain rfl := h75
  refine .q .ro (.idxR s2 rfl rfl (drop_idx g57) sl22 ty3.sz) rfl (.q .ro (.load_rp p74 mcs rfl ty3 rfl) rfl (.av rfl rfl (.re (.region rfl (.mv rfl rfl (.mv rfl rfl (.mv rfl rfl (.mv rfl rfl (.mv rfl rfl ?_)))))))))
  obtain ⟨u76, hu76, r77⟩ := bind_some r70
  refine .callS (b1 := []) (b2 := []) (s1 := []) [_, _, _] [] .ro rfl rfl Tryz.call79 rfl rfl (residue_Field_Value_c (G := G) mcs s1 hu76) rfl (fun v79 bo so h78 => ?_)
  obtain ⟨rfl, rfl, rfl⟩ := h78
  refine .same (bl' := []) (sl' := [_]) rfl rfl rfl (.q .ro (.build [_, _] [(0, _), (1, _)] ty168 pl168 rfl rfl) rfl ?_)
  refine .lit [_, _] [(0, _)] .ro sl81 ty168 rfl rfl rfl rfl rfl rfl (fun b80 hb80 => ?_)
  have o81 : OL (Rep.pair ri ri) G [.int .i64 x71, .int .i64 u76] ([(x71, u76)] : List (Int × Int)) := ((OL.cons rfl (Rep.pairI (Rep.intI .i64 x71) (Rep.intI .i64 u76)) (OL.nil (Rp' := (Rep.pair ri ri)))) :)
  refine .reval 23 (n' := ([(x71, u76)] : List (Int × Int)).length) rfl rfl ?_
  obtain ⟨u87, hu87, r88⟩ := bind_some r77
  refine .appO (Q := (Rep.pair ri ri)) 0 .ro sl81 ty168 rfl rfl rfl rfl rfl rfl o62 o81 rfl rfl rfl B0 hu87 rfl (fun a83 k84 cs85 o86 => ?_)
  refine .av rfl rfl (.re (.prune [(7, _), (12, _), (0, _), (1, _), (10, _), (11, _)] ⟨rfl, rfl, rfl, rfl, rfl, rfl, trivial⟩ (.inBlock (.region rfl (.q .ro (.addw rfl rfl) rfl (.mv rfl rfl (.re ?_)))))))
  exact .arr (hb65 ((i55 + 1), xs72, u87, a83, k84, cs85) ⟨o86, (drop_succ g57), r88⟩ (Nat.lt_succ_self _)) ⟨rfl, (congrArg (fun z => some (Value.int .i64 z)) (idx_wrap (SlR.len s2) g57)), rfl, rfl, rfl, rfl, trivial⟩
theorem share_Split_c {Fs : List Hp} {G : Hp} {x0_0 : Int} {x1 : Int} {x2 : Int} {x3 : Int} {a4_0 : Option Addr} {k4_0 : Nat} {x4_0 : List Int} {x4_1 : Int} {r : ((List (Int × Int)) × ((List Int) × Int) × Int)} (hG : G ∈ Fs) (s4_0 : SlR ri G a4_0 k4_0 x4_0) (h : share_Split x0_0 x1 x2 x3 (x4_0, x4_1) = some r) : RetW Tryz.prog 112 #[.agg #[.int .i64 x0_0], .int .i64 x1, .int .i64 x2, .int .i64 x3, .agg #[.slice a4_0 x4_0.length k4_0, .int .i64 x4_1]] Fs [] [] (fun v bo so G => ∃ a0 : Option Addr, ∃ k0 : Nat, ∃ (oa0 : Option Addr) (ok0 : Nat) (oc0 : List Value), v = .tuple #[.slice oa0 r.1.length ok0, .agg #[.slice a0 r.2.1.1.length k0, .int .i64 r.2.1.2], .int .i64 r.2.2] ∧ bo = [] ∧ so = [.s (.slice oa0 r.1.length ok0) 168 2 r.1.length oc0] ∧ SlR ri G a0 k0 r.2.1.1 ∧ OL (Rep.pair ri ri) G oc0 r.1) := by
 unfold share_Split at h
 try dsimp only at h
 refine RetW.of (vs := [_, _, _, _, _]) Tryz.func112 rfl Tryz.ntmps112 [(0, _), (1, _), (2, _), (3, _), (4, _)] ⟨rfl, rfl, rfl, rfl, rfl, trivial⟩ rfl hG fun w0 S0 hS0 B0 => ?_
 refine .seq (.region rfl ?_)
 refine .box [_] .ro rfl rfl rfl (fun b1 hb1 => ?_)
 refine .box [_, _] .ro rfl rfl rfl (fun b2 hb2 => ?_)
 refine .av rfl rfl ?_
 refine .alloc .ro ty56 rfl (fun b3 hb3 => ?_)
 refine .av rfl rfl (.re (.seq (.region rfl (.q .ro (.load_own_a 2 [_] rfl rfl ty45 rfl) rfl ?_))))
 obtain ⟨u4, hu4, r5⟩ := bind_some h
 refine .callS (b1 := []) (b2 := [_, _, _]) (s1 := []) [_] [] .ro rfl rfl Tryz.call72 rfl rfl (residue_Of_c (G := G) mcs  hu4) rfl (fun v7 bo so h6 => ?_)
 obtain ⟨rfl, rfl, rfl⟩ := h6
 refine .same (bl' := [_, _, _]) (sl' := []) rfl rfl rfl (.mv rfl rfl (.q .ro (.extract rfl rfl) rfl (.q .ro (.extract rfl rfl) rfl (.av rfl rfl (.av rfl rfl (.re (.seq (.block (.seq (.region rfl (.mv rfl rfl (.q .ro (.not rfl) rfl (.mv rfl rfl ?_)))))))))))))
 obtain ⟨u14, h15, r16⟩ := bind_some r5
 refine .cutR 5 (β := Unit) (fun y => [(32, .bool u14)]) [(1, _), (2, _), (3, _), (5, _), (9, _), (11, _), (13, _)] (fun y => G :: Fs) (fun y => []) [_, _, _] (fun y => []) [] (fun y => True) ⟨rfl, rfl, rfl, rfl, rfl, rfl, rfl, trivial⟩ [0, 1, 2] rfl [] rfl ?_ ?_
 ·rintro _ _
  refine .prune [(32, .bool u14), (1, _), (2, _), (3, _), (5, _), (9, _), (11, _), (13, _)] ⟨rfl, rfl, rfl, rfl, rfl, rfl, rfl, rfl, trivial⟩ (.same (bl' := [_, _, _]) (sl' := []) (Fs' := G :: Fs) rfl rfl rfl (.av rfl rfl (.re ?_)))
  refine .cond rfl (fun c19 => ?_) (fun c19 => ?_)
  ·have r20 := ifT r16 c19; clear r16
   exact absurd r20 (by simp)
  ·have r21 := ifBF r16 c19; clear r16
   refine .seq (.region rfl (.mv rfl rfl ?_))
   obtain ⟨u22, hu22, r23⟩ := bind_some r21
   refine .callS (b1 := []) (b2 := [_, _, _]) (s1 := []) [_] [] .ro rfl rfl Tryz.call144 rfl rfl (share_threshold_c (G := G) mcs  hu22) rfl (fun v25 bo so h24 => ?_)
   obtain ⟨rfl, rfl, rfl⟩ := h24
   refine .same (bl' := [_, _, _]) (sl' := []) rfl rfl rfl (.q .ro (.not rfl) rfl (.mv rfl rfl ?_))
   refine .cutR 3 (β := Unit) (fun y => [(41, .bool (decide (((!u22) = true) ∨ (x3 < 1))))]) [(1, _), (2, _), (3, _), (5, _), (9, _), (11, _), (13, _)] (fun y => G :: Fs) (fun y => []) [_, _, _] (fun y => []) [] (fun y => True) ⟨rfl, rfl, rfl, rfl, rfl, rfl, rfl, trivial⟩ [0, 1, 2] rfl [] rfl ?_ ?_
   ·rintro _ _
    refine .prune [(41, .bool (decide (((!u22) = true) ∨ (x3 < 1)))), (1, _), (2, _), (3, _), (5, _), (9, _), (11, _), (13, _)] ⟨rfl, rfl, rfl, rfl, rfl, rfl, rfl, rfl, trivial⟩ (.same (bl' := [_, _, _]) (sl' := []) (Fs' := G :: Fs) rfl rfl rfl (.mv rfl rfl ?_))
    refine .cutR 5 (β := Unit) (fun y => [(47, .bool (decide ((((!u22) = true) ∨ (x3 < 1)) ∨ (x0_0 ≤ x3))))]) [(1, _), (2, _), (3, _), (5, _), (9, _), (11, _), (13, _)] (fun y => G :: Fs) (fun y => []) [_, _, _] (fun y => []) [] (fun y => True) ⟨rfl, rfl, rfl, rfl, rfl, rfl, rfl, trivial⟩ [0, 1, 2] rfl [] rfl ?_ ?_
    ·rintro _ _
     refine .prune [(47, .bool (decide ((((!u22) = true) ∨ (x3 < 1)) ∨ (x0_0 ≤ x3)))), (1, _), (2, _), (3, _), (5, _), (9, _), (11, _), (13, _)] ⟨rfl, rfl, rfl, rfl, rfl, rfl, rfl, rfl, trivial⟩ (.same (bl' := [_, _, _]) (sl' := []) (Fs' := G :: Fs) rfl rfl rfl (.mv rfl rfl ?_))
     refine .cutR 3 (β := Unit) (fun y => [(51, .bool (decide (((((!u22) = true) ∨ (x3 < 1)) ∨ (x0_0 ≤ x3)) ∨ (512 < x3))))]) [(1, _), (2, _), (3, _), (5, _), (9, _), (11, _), (13, _)] (fun y => G :: Fs) (fun y => []) [_, _, _] (fun y => []) [] (fun y => True) ⟨rfl, rfl, rfl, rfl, rfl, rfl, rfl, trivial⟩ [0, 1, 2] rfl [] rfl ?_ ?_
     ·rintro _ _
      refine .prune [(51, .bool (decide (((((!u22) = true) ∨ (x3 < 1)) ∨ (x0_0 ≤ x3)) ∨ (512 < x3)))), (1, _), (2, _), (3, _), (5, _), (9, _), (11, _), (13, _)] ⟨rfl, rfl, rfl, rfl, rfl, rfl, rfl, rfl, trivial⟩ (.same (bl' := [_, _, _]) (sl' := []) (Fs' := G :: Fs) rfl rfl rfl (.av rfl rfl (.re ?_)))
      refine .cond_dec rfl (fun c38 => ?_) (fun c38 => ?_)
      ·have r39 := ifT r23 c38; clear r23
       exact absurd r39 (by simp)
      ·have r40 := ifF r23 c38; clear r23
       refine .skip (.inBlock (.seq (.region rfl (.q .ro (.load_own_a 1 [_, _] rfl rfl ty56 rfl) rfl (.q .ro (.fieldAddr 0 rfl fl45_0 ty3.sz rfl) rfl (.q .ro (.load_own 2 rfl rfl ty3 rfl) rfl (.mv rfl rfl ?_)))))))
       obtain ⟨u41, hu41, r42⟩ := bind_some r40
       refine .callW (b1 := []) (b2 := [_, _, _]) (s1 := []) [_, _, _] [] .ro rfl rfl Tryz.call65 rfl rfl (tape_Draws_c (G := G) mcs s4_0 hu41) rfl B0 (fun v44 bo so G45 e46 B47 h43 => ?_)
       obtain ⟨a49, k50, a53, k54, cs55, rfl, rfl, rfl, s51, o56⟩ := h43
       refine .same (bl' := [_, _, _]) (sl' := [_]) rfl rfl rfl (.mv rfl rfl (.q .ro (.extract rfl rfl) rfl (.q .ro (.extract rfl rfl) rfl (.q .ro (.extract rfl rfl) rfl (.store 1 [_, _] [_, _, _] .ro rfl rfl rfl ty56 rfl rfl rfl rfl (.av rfl rfl (.av rfl rfl (.re (.prune [(1, _), (3, _), (9, _), (11, _), (13, _), (15, _), (16, _)] ⟨rfl, rfl, rfl, rfl, rfl, rfl, rfl, trivial⟩ (.seq (.seq (.region rfl (.mv rfl rfl (.q .ro (.neq rfl rfl) rfl (.re ?_)))))))))))))))
       refine .cond_dec rfl (fun c57 => ?_) (fun c57 => ?_)
       ·have r58 := ifT r42 c57; clear r42
        exact absurd r58 (by simp)
       ·have r59 := ifF r42 c57; clear r42
        refine .skip (.seq (.region rfl (.av rfl rfl (.re (.seq (.seq (.region rfl (.mv rfl rfl (.mv rfl rfl (.re ?_))))))))))
        refine .cutB (β := List Int × Option Addr × Nat × List Value × Int × Int × Int) (fun y => [(17, .slice y.2.1 y.1.length y.2.2.1)]) [(1, _), (9, _), (11, _), (13, _), (15, _)] (fun y => G45 :: Fs) (fun y => [(b3, .cells #[.slice none 0 0, .int .i64 y.2.2.2.2.1] 56 (0, 0)), (b2, .cells #[.slice a49 u41.1.1.length k50, .int .i64 y.2.2.2.2.2.1] 56 (0, 0)), (b1, .cells #[.int .i64 y.2.2.2.2.2.2] 45 (0, 0))]) [] (fun y => [.s (.slice y.2.1 y.1.length y.2.2.1) 3 1 y.1.length y.2.2.2.1]) [_] (fun y => OL ri G45 y.2.2.2.1 y.1 ∧ (share_Split_J1 x1 u4.1 u41.1.1 u41.2.1) y.1 y.2.2.2.2.1 y.2.2.2.2.2.1 y.2.2.2.2.2.2 = some r) ⟨rfl, rfl, rfl, rfl, rfl, trivial⟩ [] rfl [0] rfl ?_ ?_
        ·intro y hI
         obtain ⟨v10, a11, k17, cs18, v28, v29, v32⟩ := y
         obtain ⟨o33, r36⟩ := hI
         try dsimp only at o33 r36
         refine .prune [(17, .slice a11 v10.length k17), (1, _), (9, _), (11, _), (13, _), (15, _)] ⟨rfl, rfl, rfl, rfl, rfl, rfl, trivial⟩ (.same (bl' := [(b3, .cells #[.slice none 0 0, .int .i64 v28] 56 (0, 0)), (b2, .cells #[.slice a49 u41.1.1.length k50, .int .i64 v29] 56 (0, 0)), (b1, .cells #[.int .i64 v32] 45 (0, 0))]) (sl' := [.s (.slice a11 v10.length k17) 3 1 v10.length cs18, _]) (Fs' := G45 :: Fs) rfl rfl rfl ?_)
         unfold share_Split_J1 at r36
         try dsimp only at r36
         refine .seq ?_
         refine .freezeR 1 rfl rfl o56 [_] rfl B47 (fun G37 e48 B52 s60 => ?_)
         refine .freezeR 0 rfl rfl (OL.mono e48 o33) [] rfl B52 (fun G61 e62 B63 s66 => ?_)
         refine .drawL (.q 0 (.q 1 (.q 3 (.q 5 (.q 7 (.e 2 1 (.e 4 1 (.e 6 1 (.q 8 (.e 9 1 (.q 10 .nil))))))))))) [_, _] (by kernel_rfl) (by kernel_rfl) (pick_mem [1, 2] rfl) (.dq (.move rfl) rfl (.dq (.move rfl) rfl (.dq (.move rfl) rfl (.dq (.move rfl) rfl (.dq (.load_own_a 0 [_, _] rfl rfl ty56 rfl) rfl ?_)))))
         refine .lit [_] [(0, _)] .d1 sl22 ty3 rfl rfl rfl rfl rfl rfl (fun b67 hb67 => ?_)
         have o68 : OL ri G61 [.int .i64 x1] ([x1] : List Int) := ((OL.cons rfl (Rep.intI .i64 x1) (OL.nil (Rp' := ri))) :)
         refine .reval 78 (n' := ([x1] : List Int).length) rfl rfl (.clsL (HpLe.refl _) (pick_mem [1, 2] rfl) ?_)
         obtain ⟨u69, hu69, r70⟩ := bind_some r36
         refine .appR (Q := ri) 0 .d1 sl22 ty3 rfl rfl rfl rfl rfl o68 rfl rfl (SlR.mono e62 s60) rfl mcs hu69 rfl (fun a71 k73 cs74 o75 => ?_)
         refine .clsL (HpLe.refl _) (pick_mem [1, 2] rfl) ?_
         refine .freezeR 0 rfl rfl o75 [] rfl B63 (fun G76 e77 B78 s79 => ?_)
         obtain ⟨u80, hu80, r81⟩ := bind_some r70
         refine .callS (b1 := []) (b2 := [_, _, _]) (s1 := []) [_, _, _] [] .d1 rfl rfl Tryz.call145 rfl rfl (share_shares_c (G := G76) mcs s79 (SlR.mono e77 s66) hu80) rfl (fun v82 bo so h83 => ?_)
         obtain ⟨a84, k85, cs86, rfl, rfl, rfl, o87⟩ := h83
         refine .same (bl' := [_, _, _]) (sl' := [_]) rfl rfl rfl (.clsL e77 (pick_mem [1, 2] rfl) (.dq (.assign rfl) rfl (.store 0 [_, _] [_, _, _] .d1 rfl rfl rfl ty56 rfl rfl rfl rfl (.clsL e77 (pick_mem [1, 2] rfl) (.dq (.assign rfl) rfl (.draw_end (.prune [(11, _), (10, _), (12, _)] ⟨rfl, rfl, rfl, trivial⟩ ?_)))))))
         cases r81
         refine .retWD 3 (.inr ⟨_, rfl⟩) [.tmp 10, .cell 11 56, .tmp 12] [_, _, _] rfl Tryz.func112 Tryz.results112 ⟨RV.tmp rfl, RV.cell_a 0 [_, _] rfl rfl ty56 rfl, RV.tmp rfl, trivial⟩ mcm mcs B78 (by subst hS0; simp [blks]) (fun G' hg => ⟨a49, k50, a84, k85, cs86, rfl, rfl, rfl, (SlR.mono hg (SlR.mono (HpLe.trans (HpLe.trans e48 e62) e77) s51)), (OL.mono hg o87)⟩)
        ·intro hb88
         refine .block (.own_nil 3 1 ?_)
         refine .loop2 (α := Nat × List Int × Option Addr × Nat × List Value × Int) (fun y => [(17, .slice y.2.2.1 y.2.1.length y.2.2.2.1), (67, .int .i64 y.2.2.2.2.2)]) [(1, _), (9, _), (11, _), (13, _), (15, _), (66, _)] (fun y => []) (fun y => []) [_, _, _] (fun y => [.s (.slice y.2.2.1 y.2.1.length y.2.2.2.1) 3 1 y.2.1.length y.2.2.2.2.1]) [_] (fun y => OL ri G45 y.2.2.2.2.1 y.2.1 ∧ share_Split_L2 (share_Split_J1 x1 u4.1 u41.1.1 u41.2.1) x3 u41.1.2 x0_0 y.1 y.2.1 y.2.2.2.2.2 = some r) (fun y => y.1) (big, ([] : List Int), none, 0, [], 0) ⟨(OL.nil (Rp' := ri)), r59⟩ ⟨rfl, rfl, rfl, rfl, rfl, rfl, rfl, rfl, trivial⟩ rfl rfl rfl (fun y hI hb89 => ?_)
         obtain ⟨n90, v91, a92, k93, cs94, v95⟩ := y
         obtain ⟨o96, r97⟩ := hI
         try dsimp only at o96 r97
         refine .prune [(17, .slice a92 v91.length k93), (67, .int .i64 v95), (1, _), (9, _), (11, _), (13, _), (15, _), (66, _)] ⟨rfl, rfl, rfl, rfl, rfl, rfl, rfl, rfl, trivial⟩ (.same (bl' := [_, _, _]) (sl' := [.s (.slice a92 v91.length k93) 3 1 v91.length cs94, _]) (Fs' := G45 :: Fs) rfl rfl rfl ?_)
         obtain ⟨m98, rfl⟩ : ∃ m, n90 = m + 1 := by cases n90 with | zero => exact absurd (show (none : Option _) = some _ from r97) (by simp) | succ m => exact ⟨m, rfl⟩
         have r99 : share_Split_B2 (share_Split_J1 x1 u4.1 u41.1.1 u41.2.1) x3 u41.1.2 x0_0 (share_Split_L2 (share_Split_J1 x1 u4.1 u41.1.1 u41.2.1) x3 u41.1.2 x0_0 m98) v91 v95 = some r := r97; clear r97; unfold share_Split_B2 at r99; try dsimp only at r99
         refine .seq (.region rfl (.q .ro (.lss rfl rfl) rfl (.re (.seq ?_))))
         refine .cond_dec rfl (fun c100 => ?_) (fun c100 => ?_)
         ·have r101 := ifT r99 c100; clear r99
          refine .skip (.seq (.block (.seq (.region rfl (.mv rfl rfl (.av rfl rfl (.re (.region rfl (.mv rfl rfl (.mv rfl rfl (.q .ro (.addw rfl rfl) rfl ?_)))))))))))
          refine .lit [_] [(0, _)] .ro sl22 ty3 rfl rfl rfl rfl rfl rfl (fun b102 hb102 => ?_)
          have o103 : OL ri G45 [.int .i64 (w64 (v95 + 1))] ([(w64 (v95 + 1))] : List Int) := ((OL.cons rfl (Rep.intI .i64 (w64 (v95 + 1))) (OL.nil (Rp' := ri))) :)
          refine .reval 73 (n' := ([(w64 (v95 + 1))] : List Int).length) rfl rfl ?_
          obtain ⟨u104, hu104, r105⟩ := bind_some r101
          refine .appO (Q := ri) 0 .ro sl22 ty3 rfl rfl rfl rfl rfl rfl o96 o103 rfl rfl rfl B47 hu104 rfl (fun a106 k107 cs108 o109 => ?_)
          refine .av rfl rfl (.re (.inBlock (.region rfl (.q .ro (.addw rfl rfl) rfl (.mv rfl rfl (.re ?_))))))
          exact .arr (hb89 (m98, u104, a106, k107, cs108, (w64 (v95 + 1))) ⟨o109, r105⟩ (Nat.lt_succ_self _)) ⟨rfl, rfl, rfl, rfl, rfl, rfl, rfl, rfl, trivial⟩
         ·have r110 := ifF r99 c100; clear r99
          refine .exit rfl ?_
          exact .arr (hb88 (v91, a92, k93, cs94, 0, u41.1.2, x0_0) ⟨o96, r110⟩) ⟨rfl, rfl, rfl, rfl, rfl, rfl, trivial⟩
     ·intro hb35
      refine .split 48 rfl (fun c34 => ?_) (fun c34 => ?_)
      ·refine .g_off rfl rfl rfl ?_
       refine .g_off rfl rfl rfl (.q .ro (.pick_t rfl rfl) rfl ?_)
       exact .arr (hb35 () trivial) ⟨dor_t c34, rfl, rfl, rfl, rfl, rfl, rfl, rfl, trivial⟩
      ·refine .g_on rfl ?_
       refine .mv rfl rfl (.g_on rfl (.q .ro (.gtr rfl rfl) rfl (.q .ro (.pick_f rfl rfl) rfl ?_)))
       exact .arr (hb35 () trivial) ⟨dor_f c34, rfl, rfl, rfl, rfl, rfl, rfl, rfl, trivial⟩
    ·intro hb31
     refine .split 42 rfl (fun c30 => ?_) (fun c30 => ?_)
     ·refine .g_off rfl rfl rfl ?_
      refine .g_off rfl rfl rfl (.g_off rfl rfl rfl (.g_off rfl rfl rfl (.q .ro (.pick_t rfl rfl) rfl ?_)))
      exact .arr (hb31 () trivial) ⟨dor_t c30, rfl, rfl, rfl, rfl, rfl, rfl, rfl, trivial⟩
     ·refine .g_on rfl ?_
      refine .mv rfl rfl (.g_on rfl (.q .ro (.fieldAddr 0 rfl fl45_0 ty3.sz rfl) rfl (.g_on rfl (.q .ro (.load_own 2 rfl rfl ty3 rfl) rfl (.g_on rfl (.q .ro (.geq rfl rfl) rfl (.q .ro (.pick_f rfl rfl) rfl ?_)))))))
      exact .arr (hb31 () trivial) ⟨dor_f c30, rfl, rfl, rfl, rfl, rfl, rfl, rfl, trivial⟩
   ·intro hb27
    refine .split_b 38 rfl (fun c26 => ?_) (fun c26 => ?_)
    ·refine .g_off rfl rfl rfl ?_
     refine .g_off rfl rfl rfl (.q .ro (.pick_t rfl rfl) rfl ?_)
     exact .arr (hb27 () trivial) ⟨dor_t c26, rfl, rfl, rfl, rfl, rfl, rfl, rfl, trivial⟩
    ·refine .g_on rfl ?_
     refine .mv rfl rfl (.g_on rfl (.q .ro (.lss rfl rfl) rfl (.q .ro (.pick_f rfl rfl) rfl ?_)))
     exact .arr (hb27 () trivial) ⟨dor_f (bne_of c26), rfl, rfl, rfl, rfl, rfl, rfl, rfl, trivial⟩
 ·intro hb13
  refine .split_b 27 rfl (fun c12 => ?_) (fun c12 => ?_)
  ·have r111 := ifT h15 c12
   refine .g_off rfl rfl rfl (.g_off rfl rfl rfl (.g_off rfl rfl rfl (.g_off rfl rfl rfl (.q .ro (.pick_t rfl rfl) rfl ?_))))
   exact .arr (hb13 () trivial) ⟨sval r111, rfl, rfl, rfl, rfl, rfl, rfl, rfl, trivial⟩
  ·have r113 := ifBF h15 c12
   refine .g_on rfl (.mv rfl rfl (.g_on rfl (.mv rfl rfl (.g_on rfl ?_))))
   obtain ⟨u114, hu114, r115⟩ := bind_some r113
   refine .callS (b1 := []) (b2 := [_, _, _]) (s1 := []) [_, _] [] .ro rfl rfl Tryz.call126 rfl rfl (residue_Field_Has_c (G := G) mcs  hu114) rfl (fun v116 bo so h117 => ?_)
   obtain ⟨rfl, rfl, rfl⟩ := h117
   refine .same (bl' := [_, _, _]) (sl' := []) rfl rfl rfl (.g_on rfl (.q .ro (.not rfl) rfl (.q .ro (.pick_f rfl rfl) rfl ?_)))
   exact .arr (hb13 () trivial) ⟨sval r115, rfl, rfl, rfl, rfl, rfl, rfl, rfl, trivial⟩
theorem curve_Queries_c {Fs : List Hp} {G : Hp} {x0_0 : Int} {x1_0 : Int} {x1_1 : Int} {x2 : Int} {x3 : Int} {a4_0 : Option Addr} {k4_0 : Nat} {x4_0 : List Int} {x4_1 : Int} {r : ((List (List Int)) × ((List Int) × Int) × Int)} (hG : G ∈ Fs) (s4_0 : SlR ri G a4_0 k4_0 x4_0) (h : curve_Queries x0_0 (x1_0, x1_1) x2 x3 (x4_0, x4_1) = some r) : RetW Tryz.prog 49 #[.agg #[.int .i64 x0_0], .agg #[.int .i64 x1_0, .int .i64 x1_1], .int .i64 x2, .int .i64 x3, .agg #[.slice a4_0 x4_0.length k4_0, .int .i64 x4_1]] Fs [] [] (fun v bo so G => ∃ a0 : Option Addr, ∃ k0 : Nat, ∃ a1 : Option Addr, ∃ k1 : Nat, v = .tuple #[.slice a0 r.1.length k0, .agg #[.slice a1 r.2.1.1.length k1, .int .i64 r.2.1.2], .int .i64 r.2.2] ∧ bo = [] ∧ so = [] ∧ SlR (Rep.sl ri) G a0 k0 r.1 ∧ SlR ri G a1 k1 r.2.1.1) := by
 unfold curve_Queries at h
 try dsimp only at h
 refine RetW.of (vs := [_, _, _, _, _]) Tryz.func49 rfl Tryz.ntmps49 [(0, _), (1, _), (2, _), (3, _), (4, _)] ⟨rfl, rfl, rfl, rfl, rfl, trivial⟩ rfl hG fun w0 S0 hS0 B0 => ?_
 refine .seq (.region rfl ?_)
 refine .box [_] .ro rfl rfl rfl (fun b1 hb1 => ?_)
 refine .box [_, _] .ro rfl rfl rfl (fun b2 hb2 => ?_)
 refine .box [_, _] .ro rfl rfl rfl (fun b3 hb3 => ?_)
 refine .av rfl rfl ?_
 refine .alloc .ro ty56 rfl (fun b4 hb4 => ?_)
 refine .av rfl rfl (.re (.seq (.seq (.region rfl (.q .ro (.load_own_a 3 [_] rfl rfl ty45 rfl) rfl (.q .ro (.load_own_a 2 [_, _] rfl rfl ty69 rfl) rfl (.mv rfl rfl ?_)))))))
 obtain ⟨u5, hu5, r6⟩ := bind_some h
 refine .callS (b1 := []) (b2 := [_, _, _, _]) (s1 := []) [_, _, _] [] .ro rfl rfl Tryz.call111 rfl rfl (curve_check_c (G := G) mcs  hu5) rfl (fun v8 bo so h7 => ?_)
 obtain ⟨rfl, rfl, rfl⟩ := h7
 refine .same (bl' := [_, _, _, _]) (sl' := []) rfl rfl rfl (.av rfl rfl (.re (.seq (.region rfl (.mv rfl rfl (.q .ro (.neq rfl rfl) rfl (.re ?_)))))))
 refine .cond_dec rfl (fun c9 => ?_) (fun c9 => ?_)
 ·have r10 := ifT r6 c9; clear r6
  exact absurd r10 (by simp)
 ·have r11 := ifF r6 c9; clear r6
  refine .skip (.seq (.seq (.region rfl (.mv rfl rfl (.q .ro (.lss rfl rfl) rfl (.mv rfl rfl ?_))))))
  refine .cutR 4 (β := Unit) (fun y => [(39, .bool (decide ((x3 < 0) ∨ (x2 ≤ x3))))]) [(2, _), (3, _), (5, _), (6, _), (9, _), (11, _)] (fun y => G :: Fs) (fun y => []) [_, _, _, _] (fun y => []) [] (fun y => True) ⟨rfl, rfl, rfl, rfl, rfl, rfl, trivial⟩ [0, 1, 2, 3] rfl [] rfl ?_ ?_
  ·rintro _ _
   refine .prune [(39, .bool (decide ((x3 < 0) ∨ (x2 ≤ x3)))), (2, _), (3, _), (5, _), (6, _), (9, _), (11, _)] ⟨rfl, rfl, rfl, rfl, rfl, rfl, rfl, trivial⟩ (.same (bl' := [_, _, _, _]) (sl' := []) (Fs' := G :: Fs) rfl rfl rfl (.re ?_))
   refine .cond_dec rfl (fun c16 => ?_) (fun c16 => ?_)
   ·have r17 := ifT r11 c16; clear r11
    exact absurd r17 (by simp)
   ·have r18 := ifF r11 c16; clear r11
    refine .skip (.seq (.region rfl (.q .ro (.load_own_a 1 [_, _] rfl rfl ty56 rfl) rfl (.q .ro (.fieldAddr 0 rfl fl45_0 ty3.sz rfl) rfl (.q .ro (.load_own 3 rfl rfl ty3 rfl) rfl (.mv rfl rfl (.q .ro (.fieldAddr 1 rfl fl69_1 ty3.sz rfl) rfl (.q .ro (.load_own 2 rfl rfl ty3 rfl) rfl (.q .ro (.mulw rfl rfl) rfl ?_)))))))))
    obtain ⟨u19, hu19, r20⟩ := bind_some r18
    refine .callW (b1 := []) (b2 := [_, _, _, _]) (s1 := []) [_, _, _] [] .ro rfl rfl Tryz.call65 rfl rfl (tape_Draws_c (G := G) mcs s4_0 hu19) rfl B0 (fun v22 bo so G23 e24 B25 h21 => ?_)
    obtain ⟨a27, k28, a31, k32, cs33, rfl, rfl, rfl, s29, o34⟩ := h21
    refine .same (bl' := [_, _, _, _]) (sl' := [_]) rfl rfl rfl (.mv rfl rfl (.q .ro (.extract rfl rfl) rfl (.q .ro (.extract rfl rfl) rfl (.q .ro (.extract rfl rfl) rfl ?_))))
    refine .alloc .ro ty56 rfl (fun b35 hb35 => ?_)
    refine .store 0 [_, _] [_, _, _, _, _] .ro rfl rfl rfl ty56 rfl rfl rfl rfl (.av rfl rfl (.av rfl rfl (.re (.prune [(2, _), (3, _), (5, _), (6, _), (9, _), (11, _), (15, _), (16, _)] ⟨rfl, rfl, rfl, rfl, rfl, rfl, rfl, rfl, trivial⟩ (.seq (.seq (.region rfl (.mv rfl rfl (.q .ro (.neq rfl rfl) rfl (.re ?_))))))))))
    refine .cond_dec rfl (fun c36 => ?_) (fun c36 => ?_)
    ·have r37 := ifT r20 c36; clear r20
     exact absurd r37 (by simp)
    ·have r38 := ifF r20 c36; clear r20
     refine .skip (.seq (.region rfl (.q .ro (.fieldAddr 0 rfl fl69_0 ty3.sz rfl) rfl (.q .ro (.load_own 3 rfl rfl ty3 rfl) rfl ?_))))
     obtain ⟨u39, hu39, r40⟩ := bind_some r38
     refine .makeN (G := G23) (Q := ri) 3 1 .ro sl51 ty22 rfl rfl hu39 rfl rfl (fun b41 es42 cs43 hb41 o44 => ?_)
     refine .av rfl rfl (.re (.seq (.seq (.region rfl (.mv rfl rfl (.mv rfl rfl (.re ?_)))))))
     refine .cutB (β := Hp × List Int × Option Addr × Nat × List (List Int) × List NE × List Value × Int × Int × Int × Int × Int × Int) (fun y => [(15, .slice y.2.2.1 y.2.1.length y.2.2.2.1), (17, .slice (some ⟨b41, 0, none⟩) y.2.2.2.2.1.length u39.length)]) [(9, _), (11, _)] (fun y => y.1 :: Fs) (fun y => [(b35, .cells #[.slice a27 u19.1.1.length k28, .int .i64 y.2.2.2.2.2.2.2.1] 56 (0, 0)), (b4, .cells #[.slice none 0 0, .int .i64 y.2.2.2.2.2.2.2.2.1] 56 (0, 0)), (b3, .cells #[.slice a4_0 x4_0.length k4_0, .int .i64 y.2.2.2.2.2.2.2.2.2.1] 56 (0, 0)), (b2, .cells #[.int .i64 y.2.2.2.2.2.2.2.2.2.2.1, .int .i64 y.2.2.2.2.2.2.2.2.2.2.2.1] 69 (0, 0)), (b1, .cells #[.int .i64 y.2.2.2.2.2.2.2.2.2.2.2.2] 45 (0, 0))]) [] (fun y => [.s (.slice (some ⟨b41, 0, none⟩) y.2.2.2.2.1.length u39.length) 22 1 y.2.2.2.2.1.length y.2.2.2.2.2.2.1, .g (packG 3 1 y.2.2.2.2.2.1)]) [] (fun y => HpLe G23 y.1 ∧ Bd w0 S0 Fs y.1 ∧ SlR ri y.1 y.2.2.1 y.2.2.2.1 y.2.1 ∧ NL ri y.1 y.2.2.2.2.2.1 y.2.2.2.2.2.2.1 y.2.2.2.2.1 ∧ y.2.2.2.2.1.length = u39.length ∧ (curve_Queries_J1 x4_0) y.2.1 y.2.2.2.2.1 y.2.2.2.2.2.2.2.1 y.2.2.2.2.2.2.2.2.1 y.2.2.2.2.2.2.2.2.2.1 y.2.2.2.2.2.2.2.2.2.2.1 y.2.2.2.2.2.2.2.2.2.2.2.1 y.2.2.2.2.2.2.2.2.2.2.2.2 = some r) ⟨rfl, rfl, trivial⟩ [] rfl [] rfl ?_ ?_
     ·intro y hI
      obtain ⟨G14, v15, a26, k30, v46, es47, cs48, v50, v52, v53, v54, v55, v57⟩ := y
      obtain ⟨e58, B59, s60, o61, hl62, r63⟩ := hI
      try dsimp only at e58 B59 s60 o61 hl62 r63
      refine .prune [(15, .slice a26 v15.length k30), (17, .slice (some ⟨b41, 0, none⟩) v46.length u39.length), (9, _), (11, _)] ⟨rfl, rfl, rfl, rfl, trivial⟩ (.same (bl' := [(b35, .cells #[.slice a27 u19.1.1.length k28, .int .i64 v50] 56 (0, 0)), (b4, .cells #[.slice none 0 0, .int .i64 v52] 56 (0, 0)), (b3, .cells #[.slice a4_0 x4_0.length k4_0, .int .i64 v53] 56 (0, 0)), (b2, .cells #[.int .i64 v54, .int .i64 v55] 69 (0, 0)), (b1, .cells #[.int .i64 v57] 45 (0, 0))]) (sl' := [.s (.slice (some ⟨b41, 0, none⟩) v46.length u39.length) 22 1 v46.length cs48, .g (packG 3 1 es47)]) (Fs' := G14 :: Fs) rfl rfl rfl ?_)
      unfold curve_Queries_J1 at r63
      try dsimp only at r63
      refine .seq (.region rfl (.q .ro (.fieldAddr 0 rfl fl56_0 ty22.sz rfl) rfl (.q .ro (.load_own 2 rfl rfl ty22 rfl) rfl (.own_nil 3 1 ?_))))
      obtain ⟨u66, hu66, r67⟩ := bind_some r63
      refine .appR (Q := ri) 0 .ro sl22 ty3 rfl rfl rfl rfl rfl (OL.nil (Rp' := ri)) rfl rfl (SlR.mono (HpLe.trans e24 e58) s4_0) rfl mcs hu66 rfl (fun a68 k70 cs71 o72 => ?_)
      refine .q .ro (.fieldAddr 0 rfl fl56_0 ty22.sz rfl) rfl (.store 2 [_, _] [_, _, _, _, _] .ro rfl rfl rfl ty22 rfl rfl rfl rfl (.re (.seq (.region rfl (.q .ro (.fieldAddr 1 rfl fl56_1 ty3.sz rfl) rfl (.q .ro (.load_own 2 rfl rfl ty3 rfl) rfl (.mv rfl rfl (.q .ro (.len_sl rfl rfl sl22) rfl (.q .ro (.addw rfl rfl) rfl (.q .ro (.fieldAddr 1 rfl fl56_1 ty3.sz rfl) rfl (.store 2 [_, _] [_, _, _, _, _] .ro rfl rfl rfl ty3 rfl rfl rfl rfl (.re (.seq (.drawL (.q 0 (.q 1 (.q 2 (.e 3 1 (.q 4 .nil))))) [_, _, _, _] (by kernel_rfl) (by kernel_rfl) (pick_mem [0, 2, 3, 4] rfl) (.dq (.move rfl) rfl (.dq (.load_own_a 1 [_, _] rfl rfl ty56 rfl) rfl (.dq (.assign rfl) rfl (.store 1 [_, _] [_, _, _, _, _] .d1 rfl rfl rfl ty56 rfl rfl rfl rfl (.clsL (HpLe.refl _) (pick_mem [0, 2, 3, 4] rfl) (.dq (.assign rfl) rfl (.draw_end (.prune [(11, _), (10, _), (12, _)] ⟨rfl, rfl, rfl, trivial⟩ (.pullS 2 rfl [_, _, _] rfl (.pullS 2 rfl [_, _, _] rfl ?_))))))))))))))))))))))))
      refine .freezeN (Q := ri) rfl o61 rfl B59 (fun G73 e74 B75 s76 => ?_)
      refine .freezeR 0 rfl rfl (OL.mono e74 o72) [] rfl B75 (fun G77 e78 B79 s80 => ?_)
      cases r67
      refine .retWD 5 (.inr ⟨_, rfl⟩) [.tmp 10, .cell 11 56, .tmp 12] [_, _, _] rfl Tryz.func49 Tryz.results49 ⟨RV.tmp rfl, RV.cell_a 1 [_, _] rfl rfl ty56 rfl, RV.tmp rfl, trivial⟩ mcm mcs B79 (by subst hS0; simp [blks]) (fun G' hg => ⟨(some ⟨b41, 0, none⟩), u39.length, a68, k70, rfl, rfl, rfl, (SlR.mono hg (SlR.mono e78 s76)), (SlR.mono hg s80)⟩)
     ·intro hb82
      refine .block ?_
      refine .freezeR 2 rfl rfl o34 [_, _] rfl B25 (fun G83 e84 B85 s86 => ?_)
      refine .pull 4 rfl [_, _, _, _, _] rfl (.pull 4 rfl [_, _, _, _, _] rfl (.pull 4 rfl [_, _, _, _, _] rfl (.pull 4 rfl [_, _, _, _, _] rfl (.pull 4 rfl [_, _, _, _, _] rfl (.pullS 1 rfl [_, _] rfl (.pullS 1 rfl [_, _] rfl ?_))))))
      refine .loop2 (α := Nat × Hp × Int × List (List Int) × List NE × List Value × Int × Int × Int × Int × Int × Int) (fun y => [(61, .int .i64 y.2.2.1), (17, .slice (some ⟨b41, 0, none⟩) y.2.2.2.1.length u39.length)]) [(3, _), (5, _), (6, _), (9, _), (11, _), (15, _), (60, _)] (fun y => [y.2.1]) (fun y => [(b35, .cells #[.slice a27 u19.1.1.length k28, .int .i64 y.2.2.2.2.2.2.1] 56 (0, 0)), (b4, .cells #[.slice none 0 0, .int .i64 y.2.2.2.2.2.2.2.1] 56 (0, 0)), (b3, .cells #[.slice a4_0 x4_0.length k4_0, .int .i64 y.2.2.2.2.2.2.2.2.1] 56 (0, 0)), (b2, .cells #[.int .i64 y.2.2.2.2.2.2.2.2.2.1, .int .i64 y.2.2.2.2.2.2.2.2.2.2.1] 69 (0, 0)), (b1, .cells #[.int .i64 y.2.2.2.2.2.2.2.2.2.2.2] 45 (0, 0))]) [] (fun y => [.s (.slice (some ⟨b41, 0, none⟩) y.2.2.2.1.length u39.length) 22 1 y.2.2.2.1.length y.2.2.2.2.2.1, .g (packG 3 1 y.2.2.2.2.1)]) [] (fun y => HpLe G83 y.2.1 ∧ Bd w0 S0 Fs y.2.1 ∧ NL ri y.2.1 y.2.2.2.2.1 y.2.2.2.2.2.1 y.2.2.2.1 ∧ y.2.2.2.1.length = u39.length ∧ curve_Queries_L5 (curve_Queries_J1 x4_0) x3 u19.2.1 x2 y.1 y.2.2.1 y.2.2.2.1 y.2.2.2.2.2.2.1 y.2.2.2.2.2.2.2.1 y.2.2.2.2.2.2.2.2.1 y.2.2.2.2.2.2.2.2.2.1 y.2.2.2.2.2.2.2.2.2.2.1 y.2.2.2.2.2.2.2.2.2.2.2 = some r) (fun y => y.1) (big, G83, 0, u39, es42, cs43, u19.1.2, 0, x4_1, x1_0, x1_1, x0_0) ⟨(HpLe.refl _), B85, (NL.mono e84 o44), rfl, r40⟩ ⟨rfl, rfl, rfl, rfl, rfl, rfl, rfl, rfl, rfl, trivial⟩ rfl rfl rfl (fun y hI hb87 => ?_)
      obtain ⟨n88, G89, v90, v91, es92, cs93, v94, v95, v96, v97, v98, v99⟩ := y
      obtain ⟨e100, B101, o102, hl103, r104⟩ := hI
      try dsimp only at e100 B101 o102 hl103 r104
      refine .prune [(61, .int .i64 v90), (17, .slice (some ⟨b41, 0, none⟩) v91.length u39.length), (3, _), (5, _), (6, _), (9, _), (11, _), (15, _), (60, _)] ⟨rfl, rfl, rfl, rfl, rfl, rfl, rfl, rfl, rfl, trivial⟩ (.same (bl' := [(b35, .cells #[.slice a27 u19.1.1.length k28, .int .i64 v94] 56 (0, 0)), (b4, .cells #[.slice none 0 0, .int .i64 v95] 56 (0, 0)), (b3, .cells #[.slice a4_0 x4_0.length k4_0, .int .i64 v96] 56 (0, 0)), (b2, .cells #[.int .i64 v97, .int .i64 v98] 69 (0, 0)), (b1, .cells #[.int .i64 v99] 45 (0, 0))]) (sl' := [.s (.slice (some ⟨b41, 0, none⟩) v91.length u39.length) 22 1 v91.length cs93, .g (packG 3 1 es92)]) (Fs' := G89 :: Fs) rfl rfl rfl ?_)
      obtain ⟨m105, rfl⟩ : ∃ m, n88 = m + 1 := by cases n88 with | zero => exact absurd (show (none : Option _) = some _ from r104) (by simp) | succ m => exact ⟨m, rfl⟩
      have r106 : curve_Queries_B5 (curve_Queries_J1 x4_0) x3 u19.2.1 x2 (curve_Queries_L5 (curve_Queries_J1 x4_0) x3 u19.2.1 x2 m105) v90 v91 v94 v95 v96 v97 v98 v99 = some r := r104; clear r104; unfold curve_Queries_B5 at r106; try dsimp only at r106
      refine .seq (.region rfl (.q .ro (.lss rfl rfl) rfl (.re (.seq ?_))))
      refine .cond_dec rfl (fun c107 => ?_) (fun c107 => ?_)
      ·have r108 := ifT r106 c107; clear r106
       refine .skip (.seq (.block (.seq (.region rfl (.mv rfl rfl (.av rfl rfl (.re (.seq (.region rfl (.av rfl rfl (.re (.seq (.seq (.region rfl (.mv rfl rfl (.mv rfl rfl (.q .ro (.eql rfl rfl) rfl (.re ?_))))))))))))))))))
       refine .cutI (β := Int) (fun y => [(19, .int .i64 y)]) [(61, _), (17, _), (3, _), (5, _), (6, _), (9, _), (11, _), (15, _), (60, _), (18, _)] (fun y => G89 :: Fs) (fun y => []) [_, _, _, _, _] (fun y => []) [_, _] (fun y => (curve_Queries_J4 (curve_Queries_L5 (curve_Queries_J1 x4_0) x3 u19.2.1 x2 m105) v90 u19.2.1 v94 v95 v96 v97 v98 v99 v91) y = some r) ⟨rfl, rfl, rfl, rfl, rfl, rfl, rfl, rfl, rfl, rfl, trivial⟩ [0, 1, 2, 3, 4] rfl [0, 1] rfl ?_ ?_
       ·intro v109 hI
        have r110 := hI; clear hI
        refine .prune [(19, .int .i64 v109), (61, _), (17, _), (3, _), (5, _), (6, _), (9, _), (11, _), (15, _), (60, _), (18, _)] ⟨rfl, rfl, rfl, rfl, rfl, rfl, rfl, rfl, rfl, rfl, rfl, trivial⟩ (.same (bl' := [_, _, _, _, _]) (sl' := [_, _]) (Fs' := G89 :: Fs) rfl rfl rfl ?_)
        unfold curve_Queries_J4 at r110
        try dsimp only at r110
        refine .seq ?_
        refine .cutG (β := Hp × (List (Int × Int)) × Option Addr × Nat × List Value × Int) (fun y => [(20, .slice y.2.2.1 y.2.1.length y.2.2.2.1), (22, .int .i64 y.2.2.2.2.2)]) [(61, _), (17, _), (3, _), (5, _), (6, _), (9, _), (11, _), (15, _), (60, _)] (fun y => y.1 :: Fs) (fun y => []) [_, _, _, _, _] (fun y => [.s (.slice y.2.2.1 y.2.1.length y.2.2.2.1) 168 2 y.2.1.length y.2.2.2.2.1]) [_, _] (fun y => HpLe G89 y.1 ∧ Bd w0 S0 Fs y.1 ∧ OL (Rep.pair ri ri) y.1 y.2.2.2.2.1 y.2.1 ∧ (curve_Queries_J3 (curve_Queries_L5 (curve_Queries_J1 x4_0) x3 u19.2.1 x2 m105) v90 v94 v95 v96 v97 v98 v99 v91) y.2.1 y.2.2.2.2.2 = some r) ⟨rfl, rfl, rfl, rfl, rfl, rfl, rfl, rfl, rfl, trivial⟩ [0, 1, 2, 3, 4] rfl [0, 1] rfl ?_ ?_
        ·intro y hI
         obtain ⟨G113, v114, a115, k116, cs117, v118⟩ := y
         obtain ⟨e119, B120, o121, r122⟩ := hI
         try dsimp only at e119 B120 o121 r122
         refine .prune [(20, .slice a115 v114.length k116), (22, .int .i64 v118), (61, _), (17, _), (3, _), (5, _), (6, _), (9, _), (11, _), (15, _), (60, _)] ⟨rfl, rfl, rfl, rfl, rfl, rfl, rfl, rfl, rfl, rfl, rfl, trivial⟩ (.same (bl' := [_, _, _, _, _]) (sl' := [.s (.slice a115 v114.length k116) 168 2 v114.length cs117, _, _]) (Fs' := G113 :: Fs) rfl rfl rfl ?_)
         unfold curve_Queries_J3 at r122
         try dsimp only at r122
         refine .seq (.seq (.region rfl (.mv rfl rfl (.q .ro (.neq rfl rfl) rfl (.re ?_)))))
         refine .cond_dec rfl (fun c123 => ?_) (fun c123 => ?_)
         ·have r124 := ifT r122 c123; clear r122
          exact absurd r124 (by simp)
         ·have r125 := ifF r122 c123; clear r122
          refine .skip (.seq (.region rfl (.mv rfl rfl (.q .ro (.len_sl rfl rfl sl81) rfl (.mv rfl rfl (.re (.block (.pullS 2 rfl [_, _, _] rfl (.pullS 2 rfl [_, _, _] rfl ?_)))))))))
          refine .loop2 (α := Nat × (List (Int × Int)) × Hp × List (List Int) × List NE × List Value) (fun y => [(17, .slice (some ⟨b41, 0, none⟩) y.2.2.2.1.length u39.length), (96, .int .i64 (y.1 : Int))]) [(61, _), (3, _), (5, _), (6, _), (9, _), (11, _), (15, _), (60, _), (94, _), (95, _)] (fun y => [y.2.2.1]) (fun y => []) [_, _, _, _, _] (fun y => [.s (.slice (some ⟨b41, 0, none⟩) y.2.2.2.1.length u39.length) 22 1 y.2.2.2.1.length y.2.2.2.2.2, .g (packG 3 1 y.2.2.2.2.1)]) [_] (fun y => HpLe G113 y.2.2.1 ∧ Bd w0 S0 Fs y.2.2.1 ∧ NL ri y.2.2.1 y.2.2.2.2.1 y.2.2.2.2.2 y.2.2.2.1 ∧ y.2.2.2.1.length = u39.length ∧ List.drop y.1 v114 = y.2.1 ∧ curve_Queries_L2 (curve_Queries_L5 (curve_Queries_J1 x4_0) x3 u19.2.1 x2 m105) v90 v94 v95 v96 v97 v98 v99 y.2.1 y.1 y.2.2.2.1 = some r) (fun y => y.2.1.length) (0, v114, G113, v91, es92, cs93) ⟨(HpLe.refl _), B120, (NL.mono e119 o102), hl103, rfl, r125⟩ ⟨rfl, rfl, rfl, rfl, rfl, rfl, rfl, rfl, rfl, rfl, rfl, rfl, trivial⟩ rfl rfl rfl (fun y hI hb126 => ?_)
          obtain ⟨i127, w128, G129, v130, es131, cs132⟩ := y
          obtain ⟨e133, B134, o135, hl136, g137, r138⟩ := hI
          try dsimp only at e133 B134 o135 hl136 g137 r138
          refine .prune [(17, .slice (some ⟨b41, 0, none⟩) v130.length u39.length), (96, .int .i64 (i127 : Int)), (61, _), (3, _), (5, _), (6, _), (9, _), (11, _), (15, _), (60, _), (94, _), (95, _)] ⟨rfl, rfl, rfl, rfl, rfl, rfl, rfl, rfl, rfl, rfl, rfl, rfl, trivial⟩ (.same (bl' := [_, _, _, _, _]) (sl' := [.s (.slice (some ⟨b41, 0, none⟩) v130.length u39.length) 22 1 v130.length cs132, .g (packG 3 1 es131), _]) (Fs' := G129 :: Fs) rfl rfl rfl ?_)
          cases w128 with
          | nil =>
           rw [curve_Queries_L2] at r138; try dsimp only at r138
           refine .seq (.region rfl (.q .ro (.lss rfl rfl) rfl (.re (.seq ?_))))
           refine .cond_dec rfl (fun c => absurd c (drop_nil g137)) (fun _ => ?_)
           refine .exit rfl (.inBlock (.region rfl (.q .ro (.addw rfl rfl) rfl (.mv rfl rfl (.re (.pullS 1 rfl [_, _, _] rfl (.pullS 1 rfl [_, _, _] rfl (.pullS 2 rfl [_, _, _] rfl (.drop 0 1 _ [_, _] rfl rfl ?_)))))))))
           exact .arr (hb87 (m105, G129, (w64 (v90 + 1)), v130, es131, cs132, v94, v95, v96, v97, v98, v99) ⟨(HpLe.trans (HpLe.trans e100 e119) e133), B134, o135, hl136, r138⟩ (Nat.lt_succ_self _)) ⟨rfl, rfl, rfl, rfl, rfl, rfl, rfl, rfl, rfl, trivial⟩
          | cons x139 xs140 =>
           have r141 : curve_Queries_B2 (curve_Queries_L5 (curve_Queries_J1 x4_0) x3 u19.2.1 x2 m105) v90 v94 v95 v96 v97 v98 v99 (curve_Queries_L2 (curve_Queries_L5 (curve_Queries_J1 x4_0) x3 u19.2.1 x2 m105) v90 v94 v95 v96 v97 v98 v99 xs140 (i127 + 1)) x139 i127 v130 = some r := r138; clear r138; unfold curve_Queries_B2 at r141; try dsimp only at r141
           refine .seq (.region rfl (.q .ro (.lss rfl rfl) rfl (.re (.seq ?_))))
           refine .cond_dec rfl (fun _ => ?_) (fun c => absurd (drop_lt g137) c)
           refine .skip (.seq (.block (.seq (.region rfl (.mv rfl rfl ?_)))))
           obtain ⟨c142, p143, h144⟩ := OL.get (OL.mono e133 o121) (drop_idx g137)
           obtain ⟨_, _, rfl, rfl, rfl⟩ := h144
           refine .q .ro (.idxO 2 rfl rfl rfl (drop_idx g137) sl81 ty168.sz) rfl (.q .ro (.loadO_a 2 0 [_, _] rfl (drop_idx g137) p143 rfl (.inl ⟨rfl, rfl⟩) ty168 rfl) rfl ?_)
           refine .alloc .ro ty168 rfl (fun b145 hb145 => ?_)
           refine .av rfl rfl (.store 0 [_, _] [_, _, _, _, _, _] .ro rfl rfl rfl ty168 rfl rfl rfl rfl (.re (.drawL (.q 0 (.q 1 (.q 2 (.q 3 (.q 6 (.q 7 (.alt (.e 4 1 (.alt (.e 5 1 (.e 8 1 (.e 9 1 (.e 10 2 (.e 11 2 .nil))))) (.e 8 1 (.e 5 1 (.e 9 1 (.e 10 2 (.e 11 2 .nil))))))) (.e 8 1 (.e 4 1 (.e 5 1 (.e 9 1 (.e 10 2 (.e 11 2 .nil))))))))))))) [_, _, _, _, _, _] (by kernel_rfl) (by kernel_rfl) (pick_mem [0, 1, 2, 3, 4, 5] rfl) ?_)))
           obtain ⟨u146, hu146, r147⟩ := bind_some r141
           obtain ⟨u148, hu148, r149⟩ := bind_some r147
           obtain ⟨u150, hu150, r151⟩ := bind_some r149
           obtain ⟨u152, hu152, r153⟩ := bind_some r151
           refine .dq (.move rfl) rfl (.dq (.move rfl) rfl (.dq (.move rfl) rfl (.dq (.move rfl) rfl (.dq (.fieldAddr 1 rfl fl168_1 ty3.sz rfl) rfl (.dq (.load_own 0 rfl rfl ty3 rfl) rfl ?_)))))
           refine .alt ?_ ?_
           ·obtain ⟨e154, he155, hn156, ho157, p158⟩ := NL.get o135 hu146
            refine .q .d1 (.idxO 0 rfl rfl rfl hu146 sl51 ty22.sz) rfl (.clsL (HpLe.refl _) (pick_mem [0, 1, 2, 3, 4, 5] rfl) ?_)
            refine .alt ?_ ?_
            ·refine .q .d1 (.loadO 0 0 rfl hu146 p158 rfl (.inl ⟨rfl, rfl⟩) ty22 rfl) rfl ?_
             refine .clsL (HpLe.refl _) (pick_mem [0, 1, 2, 3, 4, 5] rfl) ?_
             refine .lit [_] [(0, _)] .d1 sl22 ty3 rfl rfl rfl rfl rfl rfl (fun b159 hb159 => ?_)
             have o160 : OL ri G129 [.int .i64 x139.2] ([x139.2] : List Int) := ((OL.cons rfl (Rep.intI .i64 x139.2) (OL.nil (Rp' := ri))) :)
             refine .reval 109 (n' := ([x139.2] : List Int).length) rfl rfl (.clsL (HpLe.refl _) (pick_mem [0, 1, 2, 3, 4, 5] rfl) ?_)
             refine .freezeR 0 rfl rfl o160 [_, _, _] rfl B134 (fun G161 e162 B163 s164 => ?_)
             refine .takeN 1 rfl he155 hn156 ?_
             refine .appR (Q := ri) 0 .d1 sl22 ty3 rfl rfl rfl rfl rfl (OL.mono e162 ho157) rfl rfl s164 rfl mcs hu148 rfl (fun a165 k166 cs167 o169 => ?_)
             refine .clsL e162 (pick_mem [0, 1, 2, 3, 4, 5] rfl) ?_
             obtain ⟨e170, he171, hn172, ho173, p174⟩ := NL.get (NL.mono e162 o135) hu150
             refine .q .d2 (.idxO 1 rfl rfl rfl hu150 sl51 ty22.sz) rfl ?_
             refine .storeN 0 1 (Q := ri) .d2 rfl rfl rfl (NL.mono e162 o135) he155 o169 hu152 rfl (.inl ⟨rfl, rfl⟩) rfl ty22 rfl (fun es175 cs176 hlcs176 o177 => ?_)
             refine .reval 17 hlcs176 rfl (.reval 101 hlcs176 rfl (.reval 103 hlcs176 rfl (.draw_end (.prune [(17, _), (96, _), (61, _), (3, _), (5, _), (6, _), (9, _), (11, _), (15, _), (60, _), (94, _), (95, _)] ⟨rfl, rfl, rfl, rfl, rfl, rfl, rfl, rfl, rfl, rfl, rfl, rfl, trivial⟩ (.inBlock (.region rfl (.q .ro (.addw rfl rfl) rfl (.mv rfl rfl (.re (.drop 1 0 [_, _, _, _, _] _ rfl rfl ?_))))))))))
             exact .arr (hb126 ((i127 + 1), xs140, G161, u152, es175, cs176) ⟨(HpLe.trans e133 e162), B163, o177, (hlcs176.trans hl136), (drop_succ g137), r153⟩ (Nat.lt_succ_self _)) ⟨rfl, (congrArg (fun z => some (Value.int .i64 z)) (idx_wrap (OL.len' o121) g137)), rfl, rfl, rfl, rfl, rfl, rfl, rfl, rfl, rfl, rfl, trivial⟩
            ·refine .lit [_] [(0, _)] .d1 sl22 ty3 rfl rfl rfl rfl rfl rfl (fun b178 hb178 => ?_)
             have o179 : OL ri G129 [.int .i64 x139.2] ([x139.2] : List Int) := ((OL.cons rfl (Rep.intI .i64 x139.2) (OL.nil (Rp' := ri))) :)
             refine .reval 109 (n' := ([x139.2] : List Int).length) rfl rfl (.clsL (HpLe.refl _) (pick_mem [0, 1, 2, 3, 4, 5] rfl) (.q .d1 (.loadO 1 0 rfl hu146 p158 rfl (.inl ⟨rfl, rfl⟩) ty22 rfl) rfl (.clsL (HpLe.refl _) (pick_mem [0, 1, 2, 3, 4, 5] rfl) ?_)))
             refine .freezeR 0 rfl rfl o179 [_, _, _] rfl B134 (fun G180 e181 B182 s183 => ?_)
             refine .takeN 1 rfl he155 hn156 ?_
             refine .appR (Q := ri) 0 .d1 sl22 ty3 rfl rfl rfl rfl rfl (OL.mono e181 ho157) rfl rfl s183 rfl mcs hu148 rfl (fun a184 k185 cs186 o187 => ?_)
             refine .clsL e181 (pick_mem [0, 1, 2, 3, 4, 5] rfl) ?_
             obtain ⟨e188, he189, hn190, ho191, p192⟩ := NL.get (NL.mono e181 o135) hu150
             refine .q .d2 (.idxO 1 rfl rfl rfl hu150 sl51 ty22.sz) rfl ?_
             refine .storeN 0 1 (Q := ri) .d2 rfl rfl rfl (NL.mono e181 o135) he155 o187 hu152 rfl (.inl ⟨rfl, rfl⟩) rfl ty22 rfl (fun es193 cs194 hlcs194 o195 => ?_)
             refine .reval 17 hlcs194 rfl (.reval 101 hlcs194 rfl (.reval 103 hlcs194 rfl (.draw_end (.prune [(17, _), (96, _), (61, _), (3, _), (5, _), (6, _), (9, _), (11, _), (15, _), (60, _), (94, _), (95, _)] ⟨rfl, rfl, rfl, rfl, rfl, rfl, rfl, rfl, rfl, rfl, rfl, rfl, trivial⟩ (.inBlock (.region rfl (.q .ro (.addw rfl rfl) rfl (.mv rfl rfl (.re (.drop 1 0 [_, _, _, _, _] _ rfl rfl ?_))))))))))
             exact .arr (hb126 ((i127 + 1), xs140, G180, u152, es193, cs194) ⟨(HpLe.trans e133 e181), B182, o195, (hlcs194.trans hl136), (drop_succ g137), r153⟩ (Nat.lt_succ_self _)) ⟨rfl, (congrArg (fun z => some (Value.int .i64 z)) (idx_wrap (OL.len' o121) g137)), rfl, rfl, rfl, rfl, rfl, rfl, rfl, rfl, rfl, rfl, trivial⟩
           ·refine .lit [_] [(0, _)] .d1 sl22 ty3 rfl rfl rfl rfl rfl rfl (fun b196 hb196 => ?_)
            have o197 : OL ri G129 [.int .i64 x139.2] ([x139.2] : List Int) := ((OL.cons rfl (Rep.intI .i64 x139.2) (OL.nil (Rp' := ri))) :)
            refine .reval 109 (n' := ([x139.2] : List Int).length) rfl rfl (.clsL (HpLe.refl _) (pick_mem [0, 1, 2, 3, 4, 5] rfl) ?_)
            obtain ⟨e198, he199, hn200, ho201, p202⟩ := NL.get o135 hu146
            refine .q .d1 (.idxO 1 rfl rfl rfl hu146 sl51 ty22.sz) rfl (.clsL (HpLe.refl _) (pick_mem [0, 1, 2, 3, 4, 5] rfl) (.q .d1 (.loadO 1 0 rfl hu146 p202 rfl (.inl ⟨rfl, rfl⟩) ty22 rfl) rfl (.clsL (HpLe.refl _) (pick_mem [0, 1, 2, 3, 4, 5] rfl) ?_)))
            refine .freezeR 0 rfl rfl o197 [_, _, _] rfl B134 (fun G203 e204 B205 s206 => ?_)
            refine .takeN 1 rfl he199 hn200 ?_
            refine .appR (Q := ri) 0 .d1 sl22 ty3 rfl rfl rfl rfl rfl (OL.mono e204 ho201) rfl rfl s206 rfl mcs hu148 rfl (fun a207 k208 cs209 o210 => ?_)
            refine .clsL e204 (pick_mem [0, 1, 2, 3, 4, 5] rfl) ?_
            obtain ⟨e211, he212, hn213, ho214, p215⟩ := NL.get (NL.mono e204 o135) hu150
            refine .q .d2 (.idxO 1 rfl rfl rfl hu150 sl51 ty22.sz) rfl ?_
            refine .storeN 0 1 (Q := ri) .d2 rfl rfl rfl (NL.mono e204 o135) he199 o210 hu152 rfl (.inl ⟨rfl, rfl⟩) rfl ty22 rfl (fun es216 cs217 hlcs217 o218 => ?_)
            refine .reval 17 hlcs217 rfl (.reval 101 hlcs217 rfl (.reval 103 hlcs217 rfl (.draw_end (.prune [(17, _), (96, _), (61, _), (3, _), (5, _), (6, _), (9, _), (11, _), (15, _), (60, _), (94, _), (95, _)] ⟨rfl, rfl, rfl, rfl, rfl, rfl, rfl, rfl, rfl, rfl, rfl, rfl, trivial⟩ (.inBlock (.region rfl (.q .ro (.addw rfl rfl) rfl (.mv rfl rfl (.re (.drop 1 0 [_, _, _, _, _] _ rfl rfl ?_))))))))))
            exact .arr (hb126 ((i127 + 1), xs140, G203, u152, es216, cs217) ⟨(HpLe.trans e133 e204), B205, o218, (hlcs217.trans hl136), (drop_succ g137), r153⟩ (Nat.lt_succ_self _)) ⟨rfl, (congrArg (fun z => some (Value.int .i64 z)) (idx_wrap (OL.len' o121) g137)), rfl, rfl, rfl, rfl, rfl, rfl, rfl, rfl, rfl, rfl, trivial⟩
        ·intro hb219
         refine .drawL (.q 0 (.q 1 (.q 2 (.q 3 (.q 4 (.q 5 (.q 6 (.q 7 (.q 8 (.q 9 (.q 10 (.q 11 (.q 12 (.q 13 (.q 14 (.q 15 (.q 16 (.q 17 (.alt (.e 18 1 (.q 19 (.q 20 (.q 21 (.q 22 (.e 23 1 (.q 24 (.e 25 1 (.q 26 .nil))))))))) (.e 23 1 (.e 18 1 (.q 19 (.q 20 (.q 21 (.q 22 (.q 24 (.e 25 1 (.q 26 .nil)))))))))))))))))))))))))))) [_, _, _, _, _] (by kernel_rfl) (by kernel_rfl) (pick_mem [0, 1, 2, 3, 4] rfl) ?_
         obtain ⟨u220, hu220, r221⟩ := bind_some r110
         obtain ⟨u222, hu222, r223⟩ := bind_some r221
         refine .dq (.load_own_a 4 [_] rfl rfl ty45 rfl) rfl (.dq (.move rfl) rfl (.dq (.fieldAddr 1 rfl fl69_1 ty3.sz rfl) rfl (.dq (.load_own 3 rfl rfl ty3 rfl) rfl (.dq (.fieldAddr 0 rfl fl69_0 ty3.sz rfl) rfl (.dq (.load_own 3 rfl rfl ty3 rfl) rfl (.dq (.move rfl) rfl (.dq (.move rfl) rfl (.dq (.fieldAddr 1 rfl fl69_1 ty3.sz rfl) rfl (.dq (.load_own 3 rfl rfl ty3 rfl) rfl (.dq (.mulw rfl rfl) rfl (.dq (.move rfl) rfl (.dq (.addw rfl rfl) rfl (.dq (.fieldAddr 1 rfl fl69_1 ty3.sz rfl) rfl (.dq (.load_own 3 rfl rfl ty3 rfl) rfl (.dq (.mulw rfl rfl) rfl ?_)))))))))))))))
         obtain ⟨a224, k225, h226, s227⟩ := SlR.sub (SlR.mono e100 s86) hu220
         refine .dq (.sliceR (SlR.mono e100 s86) rfl hu220 sl22 ty3.sz (fun h => .yes' rfl h) (fun h => .yes' rfl h) h226) rfl (.dq (.build [_, _] [(0, _)] ty56 pl56 rfl rfl) rfl ?_)
         refine .alt ?_ ?_
         ·refine .callW (b1 := []) (b2 := [_, _, _, _, _]) (s1 := []) [_, _, _, _, _] [] .d1 rfl rfl Tryz.call112 rfl rfl (share_Split_c (G := G89) mcs s227 hu222) rfl B101 (fun v228 bo so G229 e230 B231 h232 => ?_)
          obtain ⟨a233, k234, a235, k236, cs237, rfl, rfl, rfl, s238, o239⟩ := h232
          refine .same (bl' := [_, _, _, _, _]) (sl' := [_, _, _]) rfl rfl rfl (.clsL e230 (pick_mem [0, 1, 2, 3, 4] rfl) (.dq (.move rfl) rfl (.dq (.extract rfl rfl) rfl (.dq (.extract rfl rfl) rfl (.dq (.extract rfl rfl) rfl ?_)))))
          refine .alloc .d1 ty56 rfl (fun b240 hb240 => ?_)
          refine .clsL e230 (pick_mem [1, 2, 3, 4, 5] rfl) (.dq (.assign rfl) rfl (.store 0 [_, _] [_, _, _, _, _, _] .d1 rfl rfl rfl ty56 rfl rfl rfl rfl (.clsL e230 (pick_mem [1, 2, 3, 4, 5] rfl) (.dq (.assign rfl) rfl (.draw_end (.prune [(61, _), (17, _), (3, _), (5, _), (6, _), (9, _), (11, _), (15, _), (60, _), (20, _), (22, _)] ⟨rfl, rfl, rfl, rfl, rfl, rfl, rfl, rfl, rfl, rfl, rfl, trivial⟩ (.drop 1 0 [_, _, _, _, _] _ rfl rfl ?_)))))))
          exact .arr (hb219 (G229, u222.1, a235, k236, cs237, u222.2.2) ⟨e230, B231, o239, r223⟩) ⟨rfl, rfl, rfl, rfl, rfl, rfl, rfl, rfl, rfl, rfl, rfl, trivial⟩
         ·refine .alloc .d1 ty56 rfl (fun b241 hb241 => ?_)
          refine .clsL (HpLe.refl _) (pick_mem [1, 2, 3, 4, 5] rfl) ?_
          refine .callW (b1 := []) (b2 := [_, _, _, _, _, _]) (s1 := []) [_, _, _, _, _] [] .d1 rfl rfl Tryz.call112 rfl rfl (share_Split_c (G := G89) mcs s227 hu222) rfl B101 (fun v242 bo so G243 e244 B245 h246 => ?_)
          obtain ⟨a247, k248, a249, k250, cs251, rfl, rfl, rfl, s252, o253⟩ := h246
          refine .same (bl' := [_, _, _, _, _, _]) (sl' := [_, _, _]) rfl rfl rfl (.clsL e244 (pick_mem [1, 2, 3, 4, 5] rfl) (.dq (.move rfl) rfl (.dq (.extract rfl rfl) rfl (.dq (.extract rfl rfl) rfl (.dq (.extract rfl rfl) rfl (.dq (.assign rfl) rfl (.store 0 [_, _] [_, _, _, _, _, _] .d1 rfl rfl rfl ty56 rfl rfl rfl rfl (.clsL e244 (pick_mem [1, 2, 3, 4, 5] rfl) (.dq (.assign rfl) rfl (.draw_end (.prune [(61, _), (17, _), (3, _), (5, _), (6, _), (9, _), (11, _), (15, _), (60, _), (20, _), (22, _)] ⟨rfl, rfl, rfl, rfl, rfl, rfl, rfl, rfl, rfl, rfl, rfl, trivial⟩ (.drop 1 0 [_, _, _, _, _] _ rfl rfl ?_))))))))))))
          exact .arr (hb219 (G243, u222.1, a249, k250, cs251, u222.2.2) ⟨e244, B245, o253, r223⟩) ⟨rfl, rfl, rfl, rfl, rfl, rfl, rfl, rfl, rfl, rfl, rfl, trivial⟩
       ·intro hb254
        refine .cond_dec rfl (fun c255 => ?_) (fun c255 => ?_)
        ·have r256 := ifT r108 c255; clear r108
         refine .region rfl (.av rfl rfl (.re ?_))
         exact .arr (hb254 (1) r256) ⟨rfl, rfl, rfl, rfl, rfl, rfl, rfl, rfl, rfl, rfl, rfl, trivial⟩
        ·have r257 := ifF r108 c255; clear r108
         refine .skip ?_
         exact .arr (hb254 (0) r257) ⟨rfl, rfl, rfl, rfl, rfl, rfl, rfl, rfl, rfl, rfl, rfl, trivial⟩
      ·have r258 := ifF r106 c107; clear r106
       refine .exit rfl ?_
       exact .arr (hb82 (G89, u19.2.1, a31, k32, v91, es92, cs93, v94, v95, v96, v97, v98, v99) ⟨(HpLe.trans e84 e100), B101, (SlR.mono e100 s86), o102, hl103, r258⟩) ⟨rfl, rfl, rfl, rfl, trivial⟩
  ·intro hb13
   refine .split 35 rfl (fun c12 => ?_) (fun c12 => ?_)
   ·refine .g_off rfl rfl rfl ?_
    refine .g_off rfl rfl rfl (.g_off rfl rfl rfl (.q .ro (.pick_t rfl rfl) rfl ?_))
    exact .arr (hb13 () trivial) ⟨dor_t c12, rfl, rfl, rfl, rfl, rfl, rfl, trivial⟩
   ·refine .g_on rfl ?_
    refine .mv rfl rfl (.g_on rfl (.mv rfl rfl (.g_on rfl (.q .ro (.geq rfl rfl) rfl (.q .ro (.pick_f rfl rfl) rfl ?_)))))
    exact .arr (hb13 () trivial) ⟨dor_f c12, rfl, rfl, rfl, rfl, rfl, rfl, trivial⟩
end Go.Proofs.YtfcicopgdahmcaaGreatDoor
end
