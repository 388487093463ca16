/- What the proof needs, gathered by wip/gen/shake.py. -/
import Derived.Calls
import Derived.Deep.Quiet
import Derived.Below
import Derived.Laws.AppendOwn
import Derived.WalkKit
import Derived.Laws.OwnMore
import Derived.Deep.Slices
import Derived.ChangeOld
import Derived.ArgAppend
import Derived.RangeFuncIn
import Derived.RangeFuncRecord
import Derived.RangeFuncLeaves
import Derived.Laws.MakeOwn
import Derived.IntWalk
import Derived.Laws.IdiomStrings
import Derived.Laws.Cover3
import Derived.Laws.CopyOwn
import Derived.MapKept
import Derived.RangeFuncNested
import Derived.Test.YtmfppphlhgneeaaRows
import Derived.ProofKit
import Derived.OpenShut
import Derived.ShutString
import Derived.Test.YtmfppphlhgneeaaLookupTablesQ3

section
namespace Go.Proofs.Ytmfppphlhgneeaa
open Go.RowKit
set_option linter.unusedSimpArgs false
set_option linter.unusedVariables false
set_option synthInstance.maxSize 2000
set_option synthInstance.maxHeartbeats 400000
set_option maxHeartbeats 4000000 in
set_option maxRecDepth 100000 in
theorem keyword_Encode_c {Fs : List Hp} {G : Hp} {x0 : Int} {a1 : Option Addr} {k1 : Nat} {x1 : List (ByteArray × Int)} {r : (ByteArray × Int)} (hG : G ∈ Fs) (s1 : SlR (Rep.pair Rep.str (Rep.int .i64)) G a1 k1 x1) (h : keyword_Encode x0 x1 = some r) : RetS Try.prog 30 #[.int .i64 x0, .slice a1 x1.length k1] Fs [] [] (fun v bo so => v = .tuple #[.string r.1, .int .i64 r.2] ∧ bo = [] ∧ so = []) := by
 unfold keyword_Encode at h
 try dsimp only at h
 refine RetS.of (vs := [_, _]) Try.func30 rfl Try.ntmps30 [(0, _), (1, _)] ⟨rfl, rfl, trivial⟩ rfl hG fun w0 S0 hS0 B0 => ?_
 refine Cov.seq ?_;refine Cov.region rfl ?_;refine Cov.q .ro (.assign rfl) rfl ?_;refine Cov.q .ro (.assign rfl) rfl ?_;refine Cov.region_end ?_;refine Cov.seq ?_;refine Cov.block ?_;refine Cov.seq ?_;refine Cov.region rfl ?_
 refine Cov.q .ro (.move rfl) rfl ?_
 obtain ⟨u1, hu1, r2⟩ := bind_some h; clear h
 refine Cov.callS (b1 := []) (b2 := []) (s1 := []) [_] [] .ro rfl rfl Try.call51 rfl rfl (keyword_slotted_c (G := G) List.mem_cons_self  hu1) rfl (fun v4 bo so h3 => ?_)
 obtain ⟨rfl, rfl, rfl⟩ := h3
 refine Cov.same (bl' := []) (sl' := []) rfl rfl rfl ?_;refine Cov.q .ro (.not rfl) rfl ?_;refine Cov.q .ro (.assign rfl) rfl ?_;refine Cov.region_end ?_
 refine Cov.cond rfl (fun c5 => ?_) (fun c5 => ?_)
 ·have r6 := ifT r2 c5; clear r2
  refine Cov.seq ?_;refine Cov.region rfl ?_;refine Cov.q .ro (.assign rfl) rfl ?_;refine Cov.q .ro (.assign rfl) rfl ?_;refine Cov.region_end ?_
  cases r6
  refine Cov.retS (c := ⟨30, none⟩) (.inr ⟨_, rfl⟩) [.tmp 4, .tmp 5] [_, _] rfl Try.func30 Try.results30 ⟨RV.tmp rfl, RV.tmp rfl, trivial⟩ (fun _ h => List.mem_cons_of_mem _ h) ⟨rfl, rfl, rfl⟩
 ·have r7 := ifBF r2 c5; clear r2
  refine Cov.seq ?_;refine Cov.region rfl ?_;refine Cov.q .ro (.move rfl) rfl ?_;refine Cov.q .ro (.len_sl rfl rfl sl32) rfl ?_;refine Cov.q .ro (.move rfl) rfl ?_;refine Cov.q .ro (.gtr rfl rfl) rfl ?_;refine Cov.q .ro (.assign rfl) rfl ?_;refine Cov.region_end ?_
  refine Cov.cond_dec rfl (fun c8 => ?_) (fun c8 => ?_)
  ·have r9 := ifT r7 c8; clear r7
   refine Cov.seq ?_;refine Cov.region rfl ?_;refine Cov.q .ro (.assign rfl) rfl ?_;refine Cov.q .ro (.assign rfl) rfl ?_;refine Cov.region_end ?_
   cases r9
   refine Cov.retS (c := ⟨30, none⟩) (.inr ⟨_, rfl⟩) [.tmp 4, .tmp 5] [_, _] rfl Try.func30 Try.results30 ⟨RV.tmp rfl, RV.tmp rfl, trivial⟩ (fun _ h => List.mem_cons_of_mem _ h) ⟨rfl, rfl, rfl⟩
  ·have r10 := ifF r7 c8; clear r7
   refine Cov.seq ?_;refine Cov.region rfl ?_;refine Cov.q .ro (.move rfl) rfl ?_
   obtain ⟨u11, hu11, r12⟩ := bind_some r10; clear r10
   refine Cov.callS (b1 := []) (b2 := []) (s1 := []) [_] [] .ro rfl rfl Try.call52 rfl rfl (keyword_ascends_c (G := G) List.mem_cons_self s1 hu11) rfl (fun v14 bo so h13 => ?_)
   obtain ⟨rfl, rfl, rfl⟩ := h13
   refine Cov.same (bl' := []) (sl' := []) rfl rfl rfl ?_;refine Cov.q .ro (.not rfl) rfl ?_;refine Cov.q .ro (.assign rfl) rfl ?_;refine Cov.region_end ?_;refine Cov.prune [(0, _), (1, _), (21, _)] ⟨rfl, rfl, rfl, trivial⟩ ?_
   refine Cov.cond rfl (fun c15 => ?_) (fun c15 => ?_)
   ·have r16 := ifT r12 c15; clear r12
    refine Cov.seq ?_;refine Cov.region rfl ?_;refine Cov.q .ro (.assign rfl) rfl ?_;refine Cov.q .ro (.assign rfl) rfl ?_;refine Cov.region_end ?_
    cases r16
    refine Cov.retS (c := ⟨30, none⟩) (.inr ⟨_, rfl⟩) [.tmp 4, .tmp 5] [_, _] rfl Try.func30 Try.results30 ⟨RV.tmp rfl, RV.tmp rfl, trivial⟩ (fun _ h => List.mem_cons_of_mem _ h) ⟨rfl, rfl, rfl⟩
   ·have r17 := ifBF r12 c15; clear r12
    refine Cov.skip ?_;refine Cov.inBlock ?_;refine Cov.seq ?_;refine Cov.region rfl ?_;refine Cov.q .ro (.assign rfl) rfl ?_;refine Cov.region_end ?_;refine Cov.seq ?_;refine Cov.region rfl ?_;refine Cov.q .ro (.move rfl) rfl ?_
    refine Cov.q .ro (.move rfl) rfl ?_;refine Cov.q .ro (.mulw rfl rfl) rfl ?_
    obtain ⟨u18, hu18, r19⟩ := bind_some r17; clear r17
    refine Cov.makeR (G := G) (Q := (Rep.int .u8)) .ro sl22 ty5 rfl rfl rfl ((Rep.intI .u8 0) :) rfl rfl hu18 rfl rfl (fun b20 cs21 hb20 o22 => ?_)
    refine Cov.q .ro (.assign rfl) rfl ?_;refine Cov.region_end ?_;refine Cov.seq ?_;refine Cov.seq ?_;refine Cov.region rfl ?_;refine Cov.q .ro (.move rfl) rfl ?_;refine Cov.q .ro (.len_sl rfl rfl sl32) rfl ?_;refine Cov.q .ro (.move rfl) rfl ?_;refine Cov.region_end ?_
    refine Cov.cutB (β := List Int × Option Addr × Nat × List Value) (fun y => [(7, .slice y.2.1 y.1.length y.2.2.1)]) [] (fun y => G :: Fs) (fun y => []) [] (fun y => [.s (.slice y.2.1 y.1.length y.2.2.1) 5 1 y.1.length y.2.2.2]) [] (fun y => OL (Rep.int .u8) G y.2.2.2 y.1 ∧ keyword_Encode_J1 y.1 = some r) trivial [] rfl [] rfl ?_ ?_
    ·intro y hI
     obtain ⟨v217, a218, k219, cs220⟩ := y
     obtain ⟨o221, r224⟩ := hI
     try dsimp only at o221 r224
     refine Cov.prune [(7, .slice a218 v217.length k219)] ⟨rfl, trivial⟩ ?_;refine Cov.same (bl' := []) (sl' := [.s (.slice a218 v217.length k219) 5 1 v217.length cs220]) (Fs' := G :: Fs) rfl rfl rfl ?_
     unfold keyword_Encode_J1 at r224
     try dsimp only at r224
     refine Cov.seq ?_;refine Cov.region rfl ?_;refine Cov.q .ro (.move rfl) rfl ?_
     refine Cov.freezeR 0 rfl rfl o221 [] rfl B0 (fun G225 e226 B227 s228 => ?_)
     refine Cov.q .ro (.b2s s228 List.mem_cons_self rfl Try.underlying22 Try.underlying5 Try.underlying9) rfl ?_;refine Cov.q .ro (.assign rfl) rfl ?_;refine Cov.q .ro (.assign rfl) rfl ?_;refine Cov.region_end ?_
     cases r224
     refine Cov.retS (c := ⟨30, none⟩) (.inr ⟨_, rfl⟩) [.tmp 4, .tmp 5] [_, _] rfl Try.func30 Try.results30 ⟨RV.tmp rfl, RV.tmp rfl, trivial⟩ (fun _ h => List.mem_cons_of_mem _ h) ⟨rfl, rfl, rfl⟩
    ·intro hb230
     refine Cov.block ?_
     refine Cov.loop2 (α := Nat × (List (ByteArray × Int)) × List Int × Option Addr × Nat × List Value) (fun y => [(7, .slice y.2.2.2.1 y.2.2.1.length y.2.2.2.2.1), (31, .int .i64 (y.1 : Int))]) [(6, _), (29, _), (30, _)] (fun y => []) (fun y => []) [] (fun y => [.s (.slice y.2.2.2.1 y.2.2.1.length y.2.2.2.2.1) 5 1 y.2.2.1.length y.2.2.2.2.2]) [] (fun y => OL (Rep.int .u8) G y.2.2.2.2.2 y.2.2.1 ∧ List.drop y.1 x1 = y.2.1 ∧ keyword_Encode_L3 keyword_Encode_J1 y.2.1 y.1 y.2.2.1 = some r) (fun y => y.2.1.length) (0, x1, u18, (some ⟨b20, 0, none⟩), u18.length, cs21) ⟨o22, rfl, r19⟩ ⟨rfl, rfl, rfl, rfl, rfl, trivial⟩ rfl rfl rfl (fun y hI hb333 => ?_)
     obtain ⟨i323, w324, v326, a327, k328, cs329⟩ := y
     obtain ⟨o330, g325, r332⟩ := hI
     try dsimp only at o330 g325 r332
     refine Cov.prune [(7, .slice a327 v326.length k328), (31, .int .i64 (i323 : Int)), (6, _), (29, _), (30, _)] ⟨rfl, rfl, rfl, rfl, rfl, trivial⟩ ?_;refine Cov.same (bl' := []) (sl' := [.s (.slice a327 v326.length k328) 5 1 v326.length cs329]) (Fs' := G :: Fs) rfl rfl rfl ?_
     cases w324 with
     | nil =>
      rw [keyword_Encode_L3] at r332; try dsimp only at r332
      refine Cov.seq ?_;refine Cov.region rfl ?_;refine Cov.q .ro (.lss rfl rfl) rfl ?_;refine Cov.region_end ?_;refine Cov.seq ?_
      refine Cov.cond_dec rfl (fun c => absurd c (drop_nil g325)) (fun _ => ?_)
      refine Cov.exit rfl ?_
      refine Cov.prune _ ?_ (Cov.same rfl rfl rfl (hb230 (v326, a327, k328, cs329) ⟨o330, r332⟩))
      exact ⟨rfl, trivial⟩
     | cons x337 xs338 =>
      have r336 : keyword_Encode_B3 keyword_Encode_J1 (keyword_Encode_L3 keyword_Encode_J1 xs338 (i323 + 1)) x337 i323 v326 = some r := r332; clear r332; unfold keyword_Encode_B3 at r336; try dsimp only at r336
      refine Cov.seq ?_;refine Cov.region rfl ?_;refine Cov.q .ro (.lss rfl rfl) rfl ?_;refine Cov.region_end ?_;refine Cov.seq ?_
      refine Cov.cond_dec rfl (fun _ => ?_) (fun c => absurd (drop_lt g325) c)
      refine Cov.skip ?_;refine Cov.seq ?_;refine Cov.block ?_;refine Cov.seq ?_;refine Cov.region rfl ?_;refine Cov.q .ro (.move rfl) rfl ?_
      obtain ⟨c339, p340, h341⟩ := SlR.get s1 (drop_idx g325)
      obtain ⟨_, _, rfl, rfl, rfl⟩ := h341
      refine Cov.q .ro (.idxR s1 rfl rfl (drop_idx g325) sl32 ty63.sz) rfl ?_;refine Cov.q .ro (.load_rp_a [_, _] p340 List.mem_cons_self rfl ty63 rfl) rfl ?_
      refine Cov.alloc .ro ty63 rfl (fun b342 hb342 => ?_)
      refine Cov.q .ro (.assign rfl) rfl ?_;refine Cov.store 0 [_, _] [_] .ro rfl rfl rfl ty63 rfl rfl rfl rfl ?_;refine Cov.region_end ?_;refine Cov.seq ?_;refine Cov.region rfl ?_;refine Cov.q .ro (.move rfl) rfl ?_;refine Cov.q .ro (.move rfl) rfl ?_;refine Cov.q .ro (.move rfl) rfl ?_;refine Cov.q .ro (.mulw rfl rfl) rfl ?_
      refine Cov.q .ro (.move rfl) rfl ?_;refine Cov.q .ro (.addw rfl rfl) rfl ?_;refine Cov.q .ro (.move rfl) rfl ?_;refine Cov.q .ro (.mulw rfl rfl) rfl ?_
      refine Cov.owncap 0 rfl (fun h343 => ?_)
      obtain ⟨u344, hu344, r345⟩ := bind_some r336; clear r336
      refine Cov.q .ro (.sliceP rfl (PartV.all h343) hu344 sl22 ty5.sz (fun h => .yes' rfl h) (fun h => .yes' rfl h)) rfl ?_;refine Cov.q .ro (.assign rfl) rfl ?_;refine Cov.region_end ?_;refine Cov.prune [(7, _), (31, _), (6, _), (29, _), (30, _), (9, _), (10, _)] ⟨rfl, rfl, rfl, rfl, rfl, rfl, rfl, trivial⟩ ?_;refine Cov.seq ?_;refine Cov.region rfl ?_;refine Cov.q .ro (.move rfl) rfl ?_;refine Cov.q .ro (.fieldAddr 0 rfl fl63_0 ty9.sz rfl) rfl ?_;refine Cov.q .ro (.load_own 0 rfl rfl ty9 rfl) rfl ?_
      refine Cov.q .ro (.len_s rfl Try.underlying9) rfl ?_;refine Cov.q .ro (.convw Try.underlying3 Try.underlying5 rfl) rfl ?_
      obtain ⟨u346, hu346, r347⟩ := bind_some r345; clear r345
      obtain ⟨u348, hu348, r349⟩ := bind_some r347; clear r347
      obtain ⟨c350, p351, h352⟩ := OL.get o330 hu348
      obtain rfl := h352
      refine Cov.q .ro (.idxP 0 rfl rfl (PartV.psub (PartV.all h343) hu344) rfl hu346 hu348 sl22 ty5.sz) rfl ?_
      obtain ⟨u353, hu353, r354⟩ := bind_some r349; clear r349
      refine Cov.storeR 0 0 (Q := (Rep.int .u8)) .ro rfl rfl o330 hu353 rfl (.inl ⟨rfl, rfl⟩) rfl ty5 p351 ((Rep.intI .u8 (wu8 (x337.1.size : Int))) :) rfl rfl (fun cs355 hlcs355 o356 => ?_)
      refine Cov.reval 7 hlcs355 rfl ?_;refine Cov.region_end ?_;refine Cov.seq ?_;refine Cov.drawL (.q 0 (.q 1 (.q 2 (.q 3 (.e 4 2 .nil))))) [_] (by kernel_rfl) (by kernel_rfl) (pick_mem [0] rfl) ?_;refine Cov.dq (.move rfl) rfl ?_
      obtain ⟨u358, hu358, r359⟩ := bind_some r354; clear r354
      refine Cov.dq (.sliceP rfl (PartV.psub (PartV.all h343) hu344) hu358 sl22 ty5.sz (fun h => .yes' rfl h) (fun _ => .no)) rfl ?_;refine Cov.dq (.fieldAddr 0 rfl fl63_0 ty9.sz rfl) rfl ?_;refine Cov.dq (.load_own 0 rfl rfl ty9 rfl) rfl ?_
      obtain ⟨u360, hu360, r361⟩ := bind_some r359; clear r359
      obtain ⟨u362, hu362, r363⟩ := bind_some r361; clear r361
      refine Cov.copyG 0 (Q := (Rep.int .u8)) .d2 sl22 ty5.sz rfl o356 hu360 rfl (PartV.psub (PartV.psub (PartV.all h343) hu344) hu358) rfl (SrcV.str' hu362) rfl (fun cs364 hlcs364 o365 => ?_)
      refine Cov.reval 7 hlcs364 rfl ?_;refine Cov.draw_end ?_;refine Cov.seq ?_;refine Cov.region rfl ?_;refine Cov.q .ro (.move rfl) rfl ?_;refine Cov.region_end ?_;refine Cov.block ?_
      refine Cov.loop2 (α := Nat × Int × List Int × List Value) (fun y => [(56, .int .i64 y.2.1), (7, .slice a327 y.2.2.1.length k328)]) [(31, _), (6, _), (29, _), (30, _), (9, _), (10, _)] (fun y => []) (fun y => []) [_] (fun y => [.s (.slice a327 y.2.2.1.length k328) 5 1 y.2.2.1.length y.2.2.2]) [] (fun y => OL (Rep.int .u8) G y.2.2.2 y.2.2.1 ∧ y.2.2.1.length = v326.length ∧ keyword_Encode_L2 (keyword_Encode_L3 keyword_Encode_J1 xs338 (i323 + 1)) u344.1 u344.2 x337.2 y.1 y.2.1 y.2.2.1 = some r) (fun y => y.1) (big, 0, (lcpy u353 u358.1 u360.length u362), cs364) ⟨o365, (hlcs364.trans hlcs355), r363⟩ ⟨rfl, rfl, rfl, rfl, rfl, rfl, rfl, rfl, trivial⟩ rfl rfl rfl (fun y hI hb397 => ?_)
      obtain ⟨n388, v390, v391, cs392⟩ := y
      obtain ⟨o393, hl394, r396⟩ := hI
      try dsimp only at o393 hl394 r396
      refine Cov.prune [(56, .int .i64 v390), (7, .slice a327 v391.length k328), (31, _), (6, _), (29, _), (30, _), (9, _), (10, _)] ⟨rfl, rfl, rfl, rfl, rfl, rfl, rfl, rfl, trivial⟩ ?_;refine Cov.same (bl' := [_]) (sl' := [.s (.slice a327 v391.length k328) 5 1 v391.length cs392]) (Fs' := G :: Fs) rfl rfl rfl ?_
      obtain ⟨m406, rfl⟩ : ∃ m, n388 = m + 1 := by cases n388 with | zero => exact absurd (show (none : Option _) = some _ from r396) (by simp) | succ m => exact ⟨m, rfl⟩
      have r405 : keyword_Encode_B2 (keyword_Encode_L3 keyword_Encode_J1 xs338 (i323 + 1)) u344.1 u344.2 x337.2 (keyword_Encode_L2 (keyword_Encode_L3 keyword_Encode_J1 xs338 (i323 + 1)) u344.1 u344.2 x337.2 m406) v390 v391 = some r := r396; clear r396; unfold keyword_Encode_B2 at r405; try dsimp only at r405
      refine Cov.seq ?_;refine Cov.region rfl ?_;refine Cov.q .ro (.lss rfl rfl) rfl ?_;refine Cov.region_end ?_;refine Cov.seq ?_
      refine Cov.cond_dec rfl (fun c407 => ?_) (fun c407 => ?_)
      ·have r408 := ifT r405 c407; clear r405
       refine Cov.skip ?_;refine Cov.seq ?_;refine Cov.block ?_;refine Cov.seq ?_;refine Cov.region rfl ?_;refine Cov.q .ro (.move rfl) rfl ?_;refine Cov.q .ro (.assign rfl) rfl ?_;refine Cov.region_end ?_;refine Cov.region rfl ?_
       refine Cov.q .ro (.move rfl) rfl ?_;refine Cov.q .ro (.move rfl) rfl ?_;refine Cov.q .ro (.addw rfl rfl) rfl ?_;refine Cov.q .ro (.fieldAddr 1 rfl fl63_1 ty3.sz rfl) rfl ?_;refine Cov.q .ro (.load_own 0 rfl rfl ty3 rfl) rfl ?_;refine Cov.q .ro (.move rfl) rfl ?_;refine Cov.q .ro (.mulw rfl rfl) rfl ?_
       obtain ⟨u409, hu409, r410⟩ := bind_some r408; clear r408
       refine Cov.q .ro (.shrw rfl rfl (nneg_some hu409)) rfl ?_;refine Cov.q .ro (.convw Try.underlying3 Try.underlying5 rfl) rfl ?_
       obtain ⟨u411, hu411, r412⟩ := bind_some r410; clear r410
       obtain ⟨u413, hu413, r414⟩ := bind_some r412; clear r412
       obtain ⟨c415, p416, h417⟩ := OL.get o393 hu413
       obtain rfl := h417
       refine Cov.q .ro (.idxP 0 rfl rfl (PartV.psub (PartV.all h343) hu344) rfl hu411 hu413 sl22 ty5.sz) rfl ?_
       obtain ⟨u418, hu418, r419⟩ := bind_some r414; clear r414
       refine Cov.storeR 0 0 (Q := (Rep.int .u8)) .ro rfl rfl o393 hu418 rfl (.inl ⟨rfl, rfl⟩) rfl ty5 p416 ((Rep.intI .u8 (wu8 (shrI .i64 x337.2 (w64 (8 * v390))))) :) rfl rfl (fun cs420 hlcs420 o421 => ?_)
       refine Cov.reval 7 hlcs420 rfl ?_;refine Cov.region_end ?_;refine Cov.prune [(56, _), (7, _), (31, _), (6, _), (29, _), (30, _), (9, _), (10, _)] ⟨rfl, rfl, rfl, rfl, rfl, rfl, rfl, rfl, trivial⟩ ?_;refine Cov.inBlock ?_;refine Cov.region rfl ?_;refine Cov.q .ro (.addw rfl rfl) rfl ?_;refine Cov.q .ro (.move rfl) rfl ?_;refine Cov.region_end ?_
       refine Cov.prune _ ?_ (Cov.same rfl rfl rfl (hb397 (m406, (w64 (v390 + 1)), u418, cs420) ⟨o421, (hlcs420.trans hl394), r419⟩ (Nat.lt_succ_self _)))
       exact ⟨rfl, rfl, rfl, rfl, rfl, rfl, rfl, rfl, trivial⟩
      ·have r423 := ifF r405 c407; clear r405
       refine Cov.exit rfl ?_;refine Cov.inBlock ?_;refine Cov.region rfl ?_;refine Cov.q .ro (.addw rfl rfl) rfl ?_;refine Cov.q .ro (.move rfl) rfl ?_;refine Cov.region_end ?_;refine Cov.drop 1 0 [] _ rfl rfl ?_
       refine Cov.prune _ ?_ (Cov.same rfl rfl rfl (hb333 ((i323 + 1), xs338, v391, a327, k328, cs392) ⟨o393, (drop_succ g325), r423⟩ (Nat.lt_succ_self _)))
       exact ⟨rfl, (congrArg (fun z => some (Value.int .i64 z)) (idx_wrap (SlR.len s1) g325)), rfl, rfl, rfl, trivial⟩
set_option maxHeartbeats 4000000 in
set_option maxRecDepth 100000 in
theorem slices_Clone_Lintint_c {Fs : List Hp} {G : Hp} {a0 : Option Addr} {k0 : Nat} {x0 : List Int} {r : (List Int)} (hG : G ∈ Fs) (s0 : SlR (Rep.int .i64) G a0 k0 x0) (h : slices_Clone_Lintint x0 = some r) : RetS Try.prog 23 #[.slice a0 x0.length k0] Fs [] [] (fun v bo so => ∃ (oa0 : Option Addr) (ok0 : Nat) (oc0 : List Value), v = .slice oa0 r.length ok0 ∧ bo = [] ∧ so = [.s (.slice oa0 r.length ok0) 3 1 r.length oc0] ∧ OL (Rep.int .i64) G oc0 r) := by
 unfold slices_Clone_Lintint at h
 try dsimp only at h
 refine RetS.of (vs := [_]) Try.func23 rfl Try.ntmps23 [(0, _)] ⟨rfl, trivial⟩ rfl hG fun w0 S0 hS0 B0 => ?_
 refine Cov.seq ?_;refine Cov.region rfl ?_;refine Cov.q .ro (.assign rfl) rfl ?_;refine Cov.region_end ?_;refine Cov.seq ?_;refine Cov.seq ?_;refine Cov.region rfl ?_;refine Cov.q .ro (.move rfl) rfl ?_;refine Cov.q .ro (.eqnil Try.underlying39 rfl rfl) rfl ?_
 refine Cov.region_end ?_
 refine Cov.cond rfl (fun c1 => ?_) (fun _ => ?_)
 ·have h2 := SlR.isnil s0 c1
  refine Cov.seq ?_;refine Cov.region rfl ?_;refine Cov.q .ro (.assign rfl) rfl ?_;refine Cov.region_end ?_;refine Cov.own_nil 3 1 ?_
  obtain rfl := nil_clone h2 h
  refine Cov.retS (c := ⟨23, none⟩) (.inr ⟨_, rfl⟩) [.tmp 2] [_] rfl Try.func23 Try.results23 ⟨RV.tmp rfl, trivial⟩ (fun _ h => List.mem_cons_of_mem _ h) ⟨none, 0, [], rfl, rfl, rfl, (OL.nil (Rp' := (Rep.int .i64)))⟩
 ·refine Cov.skip ?_
  refine Cov.seq ?_;refine Cov.region rfl ?_
  refine Cov.lit [] [] .ro sl39 ty3 rfl rfl rfl rfl rfl rfl (fun b4 hb4 => ?_)
  have o5 : OL (Rep.int .i64) G [] ([] : List Int) := ((OL.nil (Rp' := (Rep.int .i64))) :)
  refine Cov.reval 5 (n' := ([] : List Int).length) rfl rfl ?_;refine Cov.q .ro (.move rfl) rfl ?_
  obtain ⟨u11, hu11, r12⟩ := bind_some h; clear h
  refine Cov.appR (Q := (Rep.int .i64)) 0 .ro sl39 ty3 rfl rfl rfl rfl rfl o5 rfl rfl s0 rfl List.mem_cons_self hu11 rfl (fun a7 k8 cs9 o10 => ?_)
  refine Cov.q .ro (.assign rfl) rfl ?_;refine Cov.region_end ?_
  cases r12
  refine Cov.retS (c := ⟨23, none⟩) (.inr ⟨_, rfl⟩) [.tmp 2] [_] rfl Try.func23 Try.results23 ⟨RV.tmp rfl, trivial⟩ (fun _ h => List.mem_cons_of_mem _ h) ⟨a7, k8, cs9, rfl, rfl, rfl, o10⟩
set_option maxHeartbeats 4000000 in
set_option maxRecDepth 100000 in
theorem slices_IndexFunc_Lintint_c {Fs : List Hp} {G : Hp} {a0 : Option Addr} {k0 : Nat} {x0 : List Int} {F1 : FuncId} {c1 : List Value} {x1 : Int → Option Bool} {r : Int} (hG : G ∈ Fs) (s0 : SlR (Rep.int .i64) G a0 k0 x0) (hc1 : ∀ args w, (callFunc F1 args).run Try.prog w = .ok (.enter F1 args) w) (hf1 : ∀ (Fs' : List Hp) (G1 : Hp), HpLe G G1 → G1 ∈ Fs' → ∀ (y0 : Int) (r : Bool), x1 y0 = some r → RetS Try.prog F1 (([.int .i64 y0] : List Value) ++ c1).toArray Fs' [] [] (fun v bo so => v = .bool r ∧ bo = [] ∧ so = [])) (h : slices_IndexFunc_Lintint x0 x1 = some r) : RetS Try.prog 74 #[.slice a0 x0.length k0, .func (.func F1) #[] c1.toArray] Fs [] [] (fun v bo so => v = .int .i64 r ∧ bo = [] ∧ so = []) := by
 unfold slices_IndexFunc_Lintint at h
 try dsimp only at h
 refine RetS.of (vs := [_, _]) Try.func74 rfl Try.ntmps74 [(0, _), (1, _)] ⟨rfl, rfl, trivial⟩ rfl hG fun w0 S0 hS0 B0 => ?_
 refine Cov.seq ?_;refine Cov.region rfl ?_;refine Cov.q .ro (.assign rfl) rfl ?_;refine Cov.region_end ?_;refine Cov.seq ?_;refine Cov.seq ?_;refine Cov.region rfl ?_;refine Cov.q .ro (.move rfl) rfl ?_;refine Cov.q .ro (.len_sl rfl rfl sl39) rfl ?_
 refine Cov.q .ro (.move rfl) rfl ?_;refine Cov.region_end ?_;refine Cov.block ?_
 refine Cov.loop2 (α := Nat × List Int) (fun y => [(8, .int .i64 (y.1 : Int))]) [(0, _), (1, _), (7, _)] (fun y => []) (fun y => []) [] (fun y => []) [] (fun y => List.drop y.1 x0 = y.2 ∧ slices_IndexFunc_Lintint_L1 x1 y.2 y.1  = some r) (fun y => y.2.length) (0, x0) ⟨rfl, h⟩ ⟨rfl, rfl, rfl, rfl, trivial⟩ rfl rfl rfl (fun y hI hb23 => ?_)
 obtain ⟨i19, w20⟩ := y
 obtain ⟨g21, r22⟩ := hI
 try dsimp only at g21 r22
 refine Cov.prune [(8, .int .i64 (i19 : Int)), (0, _), (1, _), (7, _)] ⟨rfl, rfl, rfl, rfl, trivial⟩ ?_;refine Cov.same (bl' := []) (sl' := []) (Fs' := G :: Fs) rfl rfl rfl ?_
 cases w20 with
 | nil =>
  rw [slices_IndexFunc_Lintint_L1] at r22; try dsimp only at r22
  refine Cov.seq ?_;refine Cov.region rfl ?_;refine Cov.q .ro (.lss rfl rfl) rfl ?_;refine Cov.region_end ?_;refine Cov.seq ?_
  refine Cov.cond_dec rfl (fun c => absurd c (drop_nil g21)) (fun _ => ?_)
  refine Cov.exit rfl ?_;refine Cov.seq ?_;refine Cov.region rfl ?_;refine Cov.q .ro (.assign rfl) rfl ?_;refine Cov.region_end ?_
  cases r22
  refine Cov.retS (c := ⟨74, none⟩) (.inr ⟨_, rfl⟩) [.tmp 4] [_] rfl Try.func74 Try.results74 ⟨RV.tmp rfl, trivial⟩ (fun _ h => List.mem_cons_of_mem _ h) ⟨rfl, rfl, rfl⟩
 | cons x28 xs29 =>
  have r27 : slices_IndexFunc_Lintint_B1 x1 (slices_IndexFunc_Lintint_L1 x1 xs29 (i19 + 1)) x28 i19  = some r := r22; clear r22; unfold slices_IndexFunc_Lintint_B1 at r27; try dsimp only at r27
  refine Cov.seq ?_;refine Cov.region rfl ?_;refine Cov.q .ro (.lss rfl rfl) rfl ?_;refine Cov.region_end ?_;refine Cov.seq ?_
  refine Cov.cond_dec rfl (fun _ => ?_) (fun c => absurd (drop_lt g21) c)
  refine Cov.skip ?_;refine Cov.seq ?_;refine Cov.block ?_;refine Cov.seq ?_;refine Cov.region rfl ?_;refine Cov.q .ro (.move rfl) rfl ?_;refine Cov.q .ro (.assign rfl) rfl ?_;refine Cov.region_end ?_;refine Cov.seq ?_
  refine Cov.region rfl ?_;refine Cov.q .ro (.move rfl) rfl ?_;refine Cov.q .ro (.move rfl) rfl ?_;refine Cov.q .ro (.move rfl) rfl ?_
  obtain ⟨c30, p31, h32⟩ := SlR.get s0 (drop_idx g21)
  obtain rfl := h32
  refine Cov.q .ro (.idxR s0 rfl rfl (drop_idx g21) sl39 ty3.sz) rfl ?_;refine Cov.q .ro (.load_rp p31 List.mem_cons_self rfl ty3 rfl) rfl ?_
  obtain ⟨u33, hu33, r34⟩ := bind_some r27; clear r27
  refine Cov.callS (b1 := []) (b2 := []) (s1 := []) [_] c1 .ro rfl rfl hc1 rfl rfl (hf1 _ G (HpLe.refl _) List.mem_cons_self _ _  hu33) rfl (fun v36 bo so h35 => ?_)
  obtain ⟨rfl, rfl, rfl⟩ := h35
  refine Cov.same (bl' := []) (sl' := []) rfl rfl rfl ?_;refine Cov.region_end ?_
  refine Cov.cond rfl (fun c37 => ?_) (fun c37 => ?_)
  ·have r38 := ifT r34 c37; clear r34
   refine Cov.seq ?_;refine Cov.region rfl ?_;refine Cov.q .ro (.move rfl) rfl ?_;refine Cov.q .ro (.assign rfl) rfl ?_;refine Cov.region_end ?_;refine Cov.prune [(4, _)] ⟨rfl, trivial⟩ ?_
   cases r38
   refine Cov.retS (c := ⟨74, none⟩) (.inr ⟨_, rfl⟩) [.tmp 4] [_] rfl Try.func74 Try.results74 ⟨RV.tmp rfl, trivial⟩ (fun _ h => List.mem_cons_of_mem _ h) ⟨rfl, rfl, rfl⟩
  ·have r39 := ifBF r34 c37; clear r34
   refine Cov.skip ?_;refine Cov.inBlock ?_;refine Cov.region rfl ?_;refine Cov.q .ro (.addw rfl rfl) rfl ?_;refine Cov.q .ro (.move rfl) rfl ?_;refine Cov.region_end ?_
   refine Cov.prune _ ?_ (Cov.same rfl rfl rfl (hb23 ((i19 + 1), xs29) ⟨(drop_succ g21), r39⟩ (Nat.lt_succ_self _)))
   exact ⟨(congrArg (fun z => some (Value.int .i64 z)) (idx_wrap (SlR.len s0) g21)), rfl, rfl, rfl, trivial⟩
set_option maxHeartbeats 4000000 in
set_option maxRecDepth 100000 in
theorem slices_ContainsFunc_Lintint_c {Fs : List Hp} {G : Hp} {a0 : Option Addr} {k0 : Nat} {x0 : List Int} {F1 : FuncId} {c1 : List Value} {x1 : Int → Option Bool} {r : Bool} (hG : G ∈ Fs) (s0 : SlR (Rep.int .i64) G a0 k0 x0) (hc1 : ∀ args w, (callFunc F1 args).run Try.prog w = .ok (.enter F1 args) w) (hf1 : ∀ (Fs' : List Hp) (G1 : Hp), HpLe G G1 → G1 ∈ Fs' → ∀ (y0 : Int) (r : Bool), x1 y0 = some r → RetS Try.prog F1 (([.int .i64 y0] : List Value) ++ c1).toArray Fs' [] [] (fun v bo so => v = .bool r ∧ bo = [] ∧ so = [])) (h : slices_ContainsFunc_Lintint x0 x1 = some r) : RetS Try.prog 56 #[.slice a0 x0.length k0, .func (.func F1) #[] c1.toArray] Fs [] [] (fun v bo so => v = .bool r ∧ bo = [] ∧ so = []) := by
 unfold slices_ContainsFunc_Lintint at h
 try dsimp only at h
 refine RetS.of (vs := [_, _]) Try.func56 rfl Try.ntmps56 [(0, _), (1, _)] ⟨rfl, rfl, trivial⟩ rfl hG fun w0 S0 hS0 B0 => ?_
 refine Cov.seq ?_;refine Cov.region rfl ?_;refine Cov.q .ro (.assign rfl) rfl ?_;refine Cov.region_end ?_;refine Cov.seq ?_;refine Cov.region rfl ?_;refine Cov.q .ro (.move rfl) rfl ?_;refine Cov.q .ro (.move rfl) rfl ?_
 obtain ⟨u1, hu1, r2⟩ := bind_some h; clear h
 refine Cov.callS (b1 := []) (b2 := []) (s1 := []) [_, _] [] .ro rfl rfl Try.call74 rfl rfl (slices_IndexFunc_Lintint_c (G := G) List.mem_cons_self s0 hc1 (fun Fs' G1 hle hm => hf1 Fs' G1 (HpLe.trans (HpLe.refl _) hle) hm) hu1) rfl (fun v4 bo so h3 => ?_)
 obtain ⟨rfl, rfl, rfl⟩ := h3
 refine Cov.same (bl' := []) (sl' := []) rfl rfl rfl ?_;refine Cov.q .ro (.geq rfl rfl) rfl ?_;refine Cov.q .ro (.assign rfl) rfl ?_;refine Cov.region_end ?_
 cases r2
 refine Cov.retS (c := ⟨56, none⟩) (.inr ⟨_, rfl⟩) [.tmp 4] [_] rfl Try.func56 Try.results56 ⟨RV.tmp rfl, trivial⟩ (fun _ h => List.mem_cons_of_mem _ h) ⟨rfl, rfl, rfl⟩
set_option maxHeartbeats 4000000 in
set_option maxRecDepth 100000 in
theorem residue_Field_Has_c {Fs : List Hp} {G : Hp} {x0 : Int} {x1 : Int} {r : Bool} (hG : G ∈ Fs)  (h : residue_Field_Has x0 x1 = some r) : RetS Try.prog 85 #[.int .i64 x0, .int .i64 x1] Fs [] [] (fun v bo so => v = .bool r ∧ bo = [] ∧ so = []) := by
 unfold residue_Field_Has at h
 try dsimp only at h
 refine RetS.of (vs := [_, _]) Try.func85 rfl Try.ntmps85 [(0, _), (1, _)] ⟨rfl, rfl, trivial⟩ rfl hG fun w0 S0 hS0 B0 => ?_
 refine Cov.seq ?_;refine Cov.region rfl ?_;refine Cov.q .ro (.assign rfl) rfl ?_;refine Cov.region_end ?_;refine Cov.seq ?_;refine Cov.region rfl ?_;refine Cov.q .ro (.move rfl) rfl ?_;refine Cov.q .ro (.geq rfl rfl) rfl ?_;refine Cov.q .ro (.move rfl) rfl ?_
 refine Cov.cutR 4 (β := Unit) (fun y => [(11, .bool (decide ((0 ≤ x1) ∧ (x1 < x0))))]) [(4, _)] (fun y => G :: Fs) (fun y => []) [] (fun y => []) [] (fun y => True) ⟨rfl, trivial⟩ [] rfl [] rfl ?_ ?_
 ·rintro _ _
  refine Cov.prune [(11, .bool (decide ((0 ≤ x1) ∧ (x1 < x0)))), (4, _)] ⟨rfl, rfl, trivial⟩ ?_;refine Cov.same (bl' := []) (sl' := []) (Fs' := G :: Fs) rfl rfl rfl ?_;refine Cov.q .ro (.assign rfl) rfl ?_;refine Cov.region_end ?_
  cases h
  refine Cov.retS (c := ⟨85, none⟩) (.inr ⟨_, rfl⟩) [.tmp 4] [_] rfl Try.func85 Try.results85 ⟨RV.tmp rfl, trivial⟩ (fun _ h => List.mem_cons_of_mem _ h) ⟨rfl, rfl, rfl⟩
 ·intro hb2
  refine Cov.split 7 rfl (fun c1 => ?_) (fun c1 => ?_)
  ·refine Cov.g_on rfl ?_
   refine Cov.q .ro (.move rfl) rfl ?_;refine Cov.g_on rfl ?_;refine Cov.q .ro (.move rfl) rfl ?_;refine Cov.g_on rfl ?_;refine Cov.q .ro (.lss rfl rfl) rfl ?_;refine Cov.q .ro (.pick_t rfl rfl) rfl ?_
   refine Cov.prune _ ?_ (Cov.same rfl rfl rfl (hb2 () trivial))
   exact ⟨dand_t c1, rfl, trivial⟩
  ·refine Cov.g_off rfl rfl rfl ?_
   refine Cov.g_off rfl rfl rfl ?_;refine Cov.g_off rfl rfl rfl ?_;refine Cov.q .ro (.pick_f rfl rfl) rfl ?_
   refine Cov.prune _ ?_ (Cov.same rfl rfl rfl (hb2 () trivial))
   exact ⟨dand_f c1, rfl, trivial⟩
set_option maxHeartbeats 4000000 in
set_option maxRecDepth 100000 in
theorem residue_Field_All_f1_c {Fs : List Hp} {G : Hp} {x0 : Int} {p1 : Value} {x1 : Int} {r : Bool} (hG : G ∈ Fs) (hp1 : Rp G p1 [.int .i64 x1]) (h : residue_Field_All_f1 x0 x1 = some r) : RetS Try.prog 84 #[.int .i64 x0, p1] Fs [] [] (fun v bo so => v = .bool r ∧ bo = [] ∧ so = []) := by
 unfold residue_Field_All_f1 at h
 try dsimp only at h
 refine RetS.of (vs := [_, _]) Try.func84 rfl Try.ntmps84 [(0, _), (1, _)] ⟨rfl, rfl, trivial⟩ rfl hG fun w0 S0 hS0 B0 => ?_
 refine Cov.seq ?_;refine Cov.region rfl ?_;refine Cov.q .ro (.assign rfl) rfl ?_;refine Cov.region_end ?_;refine Cov.seq ?_;refine Cov.region rfl ?_;refine Cov.q .ro (.load_rp hp1 List.mem_cons_self rfl ty107 rfl) rfl ?_;refine Cov.q .ro (.move rfl) rfl ?_
 obtain ⟨u1, hu1, r2⟩ := bind_some h; clear h
 refine Cov.callS (b1 := []) (b2 := []) (s1 := []) [_, _] [] .ro rfl rfl Try.call85 rfl rfl (residue_Field_Has_c (G := G) List.mem_cons_self  hu1) rfl (fun v4 bo so h3 => ?_)
 obtain ⟨rfl, rfl, rfl⟩ := h3
 refine Cov.same (bl' := []) (sl' := []) rfl rfl rfl ?_;refine Cov.q .ro (.not rfl) rfl ?_;refine Cov.q .ro (.assign rfl) rfl ?_;refine Cov.region_end ?_
 cases r2
 refine Cov.retS (c := ⟨84, none⟩) (.inr ⟨_, rfl⟩) [.tmp 3] [_] rfl Try.func84 Try.results84 ⟨RV.tmp rfl, trivial⟩ (fun _ h => List.mem_cons_of_mem _ h) ⟨rfl, rfl, rfl⟩
set_option maxHeartbeats 4000000 in
set_option maxRecDepth 100000 in
theorem residue_Field_All_c {Fs : List Hp} {G : Hp} {x0 : Int} {a1 : Option Addr} {k1 : Nat} {x1 : List Int} {r : Bool} (hG : G ∈ Fs) (s1 : SlR (Rep.int .i64) G a1 k1 x1) (h : residue_Field_All x0 x1 = some r) : RetS Try.prog 73 #[.int .i64 x0, .slice a1 x1.length k1] Fs [] [] (fun v bo so => v = .bool r ∧ bo = [] ∧ so = []) := by
 unfold residue_Field_All at h
 try dsimp only at h
 refine RetS.of (vs := [_, _]) Try.func73 rfl Try.ntmps73 [(0, _), (1, _)] ⟨rfl, rfl, trivial⟩ rfl hG fun w0 S0 hS0 B0 => ?_
 refine Cov.seq ?_;refine Cov.region rfl ?_
 refine Cov.box [_] .ro rfl rfl rfl (fun b1 hb1 => ?_)
 refine Cov.q .ro (.assign rfl) rfl ?_;refine Cov.region_end ?_;refine Cov.seq ?_;refine Cov.region rfl ?_;refine Cov.q .ro (.move rfl) rfl ?_;refine Cov.q .ro (.makeFunc (vf := []) (vc := [_]) rfl rfl) rfl ?_
 refine Cov.freezeBR 0 rfl [] rfl B0 (fun G2 e3 B4 p5 => ?_)
 obtain ⟨u7, hu7, r8⟩ := bind_some h; clear h
 refine Cov.callS (b1 := []) (b2 := []) (s1 := []) [_, _] [] .ro rfl rfl Try.call56 rfl rfl (slices_ContainsFunc_Lintint_c (G := G2) List.mem_cons_self (SlR.mono e3 s1) Try.call84 (fun Fs' G1 hle hm y0 r  hr => residue_Field_All_f1_c (G := G1) hm  (Rp.mono hle p5) hr) hu7) rfl (fun v10 bo so h9 => ?_)
 obtain ⟨rfl, rfl, rfl⟩ := h9
 refine Cov.same (bl' := []) (sl' := []) rfl rfl rfl ?_;refine Cov.q .ro (.not rfl) rfl ?_;refine Cov.q .ro (.assign rfl) rfl ?_;refine Cov.region_end ?_
 cases r8
 refine Cov.retS (c := ⟨73, none⟩) (.inr ⟨_, rfl⟩) [.tmp 4] [_] rfl Try.func73 Try.results73 ⟨RV.tmp rfl, trivial⟩ (fun _ h => List.mem_cons_of_mem _ h) ⟨rfl, rfl, rfl⟩
set_option maxHeartbeats 4000000 in
set_option maxRecDepth 100000 in
theorem table_Check_c {Fs : List Hp} {G : Hp} {x0_0 : Int} {x0_1 : Int} {x0_2 : Int} {a0_3 : Option Addr} {k0_3 : Nat} {x0_3 : List (List Int)} {r : Int} (hG : G ∈ Fs) (s0_3 : SlR (Rep.sl (Rep.int .i64)) G a0_3 k0_3 x0_3) (h : table_Check (x0_0, x0_1, x0_2, x0_3) = some r) : RetS Try.prog 55 #[.agg #[.int .i64 x0_0, .int .i64 x0_1, .int .i64 x0_2, .slice a0_3 x0_3.length k0_3]] Fs [] [] (fun v bo so => v = .int .i64 r ∧ bo = [] ∧ so = []) := by
 unfold table_Check at h
 try dsimp only at h
 refine RetS.of (vs := [_]) Try.func55 rfl Try.ntmps55 [(0, _)] ⟨rfl, trivial⟩ rfl hG fun w0 S0 hS0 B0 => ?_
 refine Cov.seq ?_;refine Cov.region rfl ?_
 refine Cov.box [_, _, _, _] .ro rfl rfl rfl (fun b1 hb1 => ?_)
 refine Cov.q .ro (.assign rfl) rfl ?_;refine Cov.region_end ?_;refine Cov.seq ?_;refine Cov.region rfl ?_;refine Cov.q .ro (.fieldAddr 1 rfl fl57_1 ty54.sz rfl) rfl ?_;refine Cov.q .ro (.load_own_a 0 [_] rfl rfl ty54 rfl) rfl ?_
 obtain ⟨u2, hu2, r3⟩ := bind_some h; clear h
 refine Cov.callS (b1 := []) (b2 := [_]) (s1 := []) [_] [] .ro rfl rfl Try.call54 rfl rfl (residue_Of_c (G := G) List.mem_cons_self  hu2) rfl (fun v5 bo so h4 => ?_)
 obtain ⟨rfl, rfl, rfl⟩ := h4
 refine Cov.same (bl' := [_]) (sl' := []) rfl rfl rfl ?_;refine Cov.q .ro (.move rfl) rfl ?_;refine Cov.q .ro (.extract rfl rfl) rfl ?_;refine Cov.q .ro (.extract rfl rfl) rfl ?_;refine Cov.q .ro (.assign rfl) rfl ?_;refine Cov.q .ro (.assign rfl) rfl ?_;refine Cov.region_end ?_;refine Cov.seq ?_;refine Cov.block ?_
 refine Cov.seq ?_;refine Cov.region rfl ?_;refine Cov.q .ro (.fieldAddr 0 rfl fl57_0 ty3.sz rfl) rfl ?_;refine Cov.q .ro (.load_own 0 rfl rfl ty3 rfl) rfl ?_;refine Cov.q .ro (.lss rfl rfl) rfl ?_;refine Cov.q .ro (.move rfl) rfl ?_;refine Cov.cutR 4 (β := Unit) (fun y => [(21, .bool (decide ((x0_0 < 1) ∨ (2147483647 ≤ x0_0))))]) [(1, _), (3, _), (4, _)] (fun y => G :: Fs) (fun y => []) [_] (fun y => []) [] (fun y => True) ⟨rfl, rfl, rfl, trivial⟩ [0] rfl [] rfl ?_ ?_
 ·rintro _ _
  refine Cov.prune [(21, .bool (decide ((x0_0 < 1) ∨ (2147483647 ≤ x0_0)))), (1, _), (3, _), (4, _)] ⟨rfl, rfl, rfl, rfl, trivial⟩ ?_;refine Cov.same (bl' := [_]) (sl' := []) (Fs' := G :: Fs) rfl rfl rfl ?_;refine Cov.q .ro (.assign rfl) rfl ?_;refine Cov.region_end ?_
  refine Cov.cond_dec rfl (fun c10 => ?_) (fun c10 => ?_)
  ·have r11 := ifT r3 c10; clear r3
   refine Cov.seq ?_;refine Cov.region rfl ?_;refine Cov.q .ro (.assign rfl) rfl ?_;refine Cov.region_end ?_
   cases r11
   refine Cov.drop 1 0 [] _ rfl rfl ?_
   refine Cov.retS (c := ⟨55, none⟩) (.inr ⟨_, rfl⟩) [.tmp 2] [_] rfl Try.func55 Try.results55 ⟨RV.tmp rfl, trivial⟩ (fun _ h => List.mem_cons_of_mem _ h) ⟨rfl, rfl, rfl⟩
  ·have r12 := ifF r3 c10; clear r3
   refine Cov.seq ?_;refine Cov.region rfl ?_;refine Cov.q .ro (.move rfl) rfl ?_;refine Cov.q .ro (.not rfl) rfl ?_;refine Cov.q .ro (.assign rfl) rfl ?_;refine Cov.region_end ?_
   refine Cov.cond rfl (fun c13 => ?_) (fun c13 => ?_)
   ·have r14 := ifT r12 c13; clear r12
    refine Cov.seq ?_;refine Cov.region rfl ?_;refine Cov.q .ro (.assign rfl) rfl ?_;refine Cov.region_end ?_
    cases r14
    refine Cov.drop 1 0 [] _ rfl rfl ?_
    refine Cov.retS (c := ⟨55, none⟩) (.inr ⟨_, rfl⟩) [.tmp 2] [_] rfl Try.func55 Try.results55 ⟨RV.tmp rfl, trivial⟩ (fun _ h => List.mem_cons_of_mem _ h) ⟨rfl, rfl, rfl⟩
   ·have r15 := ifBF r12 c13; clear r12
    refine Cov.seq ?_;refine Cov.region rfl ?_;refine Cov.q .ro (.fieldAddr 2 rfl fl57_2 ty3.sz rfl) rfl ?_;refine Cov.q .ro (.load_own 0 rfl rfl ty3 rfl) rfl ?_;refine Cov.q .ro (.lss rfl rfl) rfl ?_;refine Cov.q .ro (.move rfl) rfl ?_;refine Cov.cutR 4 (β := Unit) (fun y => [(33, .bool (decide ((x0_2 < 1) ∨ (64 < x0_2))))]) [(1, _), (3, _)] (fun y => G :: Fs) (fun y => []) [_] (fun y => []) [] (fun y => True) ⟨rfl, rfl, trivial⟩ [0] rfl [] rfl ?_ ?_
    ·rintro _ _
     refine Cov.prune [(33, .bool (decide ((x0_2 < 1) ∨ (64 < x0_2)))), (1, _), (3, _)] ⟨rfl, rfl, rfl, trivial⟩ ?_;refine Cov.same (bl' := [_]) (sl' := []) (Fs' := G :: Fs) rfl rfl rfl ?_;refine Cov.q .ro (.assign rfl) rfl ?_;refine Cov.region_end ?_
     refine Cov.cond_dec rfl (fun c20 => ?_) (fun c20 => ?_)
     ·have r21 := ifT r15 c20; clear r15
      refine Cov.seq ?_;refine Cov.region rfl ?_;refine Cov.q .ro (.assign rfl) rfl ?_;refine Cov.region_end ?_
      cases r21
      refine Cov.drop 1 0 [] _ rfl rfl ?_
      refine Cov.retS (c := ⟨55, none⟩) (.inr ⟨_, rfl⟩) [.tmp 2] [_] rfl Try.func55 Try.results55 ⟨RV.tmp rfl, trivial⟩ (fun _ h => List.mem_cons_of_mem _ h) ⟨rfl, rfl, rfl⟩
     ·have r22 := ifF r15 c20; clear r15
      refine Cov.seq ?_;refine Cov.region rfl ?_;refine Cov.q .ro (.fieldAddr 3 rfl fl57_3 ty55.sz rfl) rfl ?_;refine Cov.q .ro (.load_own 0 rfl rfl ty55 rfl) rfl ?_;refine Cov.q .ro (.len_sl rfl rfl sl55) rfl ?_;refine Cov.q .ro (.gtr rfl rfl) rfl ?_;refine Cov.q .ro (.assign rfl) rfl ?_;refine Cov.region_end ?_
      refine Cov.cond_dec rfl (fun c23 => ?_) (fun c23 => ?_)
      ·have r24 := ifT r22 c23; clear r22
       refine Cov.seq ?_;refine Cov.region rfl ?_;refine Cov.q .ro (.assign rfl) rfl ?_;refine Cov.region_end ?_
       cases r24
       refine Cov.drop 1 0 [] _ rfl rfl ?_
       refine Cov.retS (c := ⟨55, none⟩) (.inr ⟨_, rfl⟩) [.tmp 2] [_] rfl Try.func55 Try.results55 ⟨RV.tmp rfl, trivial⟩ (fun _ h => List.mem_cons_of_mem _ h) ⟨rfl, rfl, rfl⟩
      ·have r25 := ifF r22 c23; clear r22
       refine Cov.skip ?_;refine Cov.inBlock ?_;refine Cov.seq ?_;refine Cov.seq ?_;refine Cov.region rfl ?_;refine Cov.q .ro (.fieldAddr 3 rfl fl57_3 ty55.sz rfl) rfl ?_;refine Cov.q .ro (.load_own 0 rfl rfl ty55 rfl) rfl ?_;refine Cov.q .ro (.len_sl rfl rfl sl55) rfl ?_;refine Cov.q .ro (.move rfl) rfl ?_
       refine Cov.region_end ?_;refine Cov.block ?_
       refine Cov.loop2 (α := Nat × List (List Int)) (fun y => [(42, .int .i64 (y.1 : Int))]) [(1, _), (3, _), (40, _), (41, _)] (fun y => []) (fun y => []) [_] (fun y => []) [] (fun y => List.drop y.1 x0_3 = y.2 ∧ table_Check_L1 u2.1 x0_2 y.2  = some r) (fun y => y.2.length) (0, x0_3) ⟨rfl, r25⟩ ⟨rfl, rfl, rfl, rfl, rfl, trivial⟩ rfl rfl rfl (fun y hI hb57 => ?_)
       obtain ⟨i53, w54⟩ := y
       obtain ⟨g55, r56⟩ := hI
       try dsimp only at g55 r56
       refine Cov.prune [(42, .int .i64 (i53 : Int)), (1, _), (3, _), (40, _), (41, _)] ⟨rfl, rfl, rfl, rfl, rfl, trivial⟩ ?_;refine Cov.same (bl' := [_]) (sl' := []) (Fs' := G :: Fs) rfl rfl rfl ?_
       cases w54 with
       | nil =>
        rw [table_Check_L1] at r56; try dsimp only at r56
        refine Cov.seq ?_;refine Cov.region rfl ?_;refine Cov.q .ro (.lss rfl rfl) rfl ?_;refine Cov.region_end ?_;refine Cov.seq ?_
        refine Cov.cond_dec rfl (fun c => absurd c (drop_nil g55)) (fun _ => ?_)
        refine Cov.exit rfl ?_;refine Cov.seq ?_;refine Cov.region rfl ?_;refine Cov.q .ro (.assign rfl) rfl ?_;refine Cov.region_end ?_
        cases r56
        refine Cov.drop 1 0 [] _ rfl rfl ?_
        refine Cov.retS (c := ⟨55, none⟩) (.inr ⟨_, rfl⟩) [.tmp 2] [_] rfl Try.func55 Try.results55 ⟨RV.tmp rfl, trivial⟩ (fun _ h => List.mem_cons_of_mem _ h) ⟨rfl, rfl, rfl⟩
       | cons x65 xs66 =>
        have r64 : table_Check_B1 u2.1 x0_2 (table_Check_L1 u2.1 x0_2 xs66) x65  = some r := r56; clear r56; unfold table_Check_B1 at r64; try dsimp only at r64
        refine Cov.seq ?_;refine Cov.region rfl ?_;refine Cov.q .ro (.lss rfl rfl) rfl ?_;refine Cov.region_end ?_;refine Cov.seq ?_
        refine Cov.cond_dec rfl (fun _ => ?_) (fun c => absurd (drop_lt g55) c)
        refine Cov.skip ?_;refine Cov.seq ?_;refine Cov.block ?_;refine Cov.seq ?_;refine Cov.region rfl ?_
        obtain ⟨c67, p68, h69⟩ := SlR.get s0_3 (drop_idx g55)
        obtain ⟨a70, k71, rfl, s72⟩ := h69
        refine Cov.q .ro (.idxR s0_3 rfl rfl (drop_idx g55) sl55 ty39.sz) rfl ?_;refine Cov.q .ro (.load_rp p68 List.mem_cons_self rfl ty39 rfl) rfl ?_;refine Cov.q .ro (.assign rfl) rfl ?_;refine Cov.region_end ?_;refine Cov.seq ?_;refine Cov.seq ?_;refine Cov.region rfl ?_;refine Cov.q .ro (.move rfl) rfl ?_;refine Cov.q .ro (.len_sl rfl rfl sl39) rfl ?_
        refine Cov.q .ro (.fieldAddr 2 rfl fl57_2 ty3.sz rfl) rfl ?_;refine Cov.q .ro (.load_own 0 rfl rfl ty3 rfl) rfl ?_;refine Cov.q .ro (.neq rfl rfl) rfl ?_;refine Cov.region_end ?_
        refine Cov.cond_dec rfl (fun c73 => ?_) (fun c73 => ?_)
        ·have r74 := ifT r64 c73; clear r64
         refine Cov.seq ?_;refine Cov.region rfl ?_;refine Cov.q .ro (.assign rfl) rfl ?_;refine Cov.region_end ?_;refine Cov.prune [(2, _)] ⟨rfl, trivial⟩ ?_
         cases r74
         refine Cov.drop 1 0 [] _ rfl rfl ?_
         refine Cov.retS (c := ⟨55, none⟩) (.inr ⟨_, rfl⟩) [.tmp 2] [_] rfl Try.func55 Try.results55 ⟨RV.tmp rfl, trivial⟩ (fun _ h => List.mem_cons_of_mem _ h) ⟨rfl, rfl, rfl⟩
        ·have r75 := ifF r64 c73; clear r64
         refine Cov.skip ?_;refine Cov.seq ?_;refine Cov.region rfl ?_;refine Cov.q .ro (.move rfl) rfl ?_;refine Cov.q .ro (.move rfl) rfl ?_
         obtain ⟨u76, hu76, r77⟩ := bind_some r75; clear r75
         refine Cov.callS (b1 := []) (b2 := [_]) (s1 := []) [_, _] [] .ro rfl rfl Try.call73 rfl rfl (residue_Field_All_c (G := G) List.mem_cons_self s72 hu76) rfl (fun v79 bo so h78 => ?_)
         obtain ⟨rfl, rfl, rfl⟩ := h78
         refine Cov.same (bl' := [_]) (sl' := []) rfl rfl rfl ?_;refine Cov.q .ro (.not rfl) rfl ?_;refine Cov.region_end ?_
         refine Cov.cond rfl (fun c80 => ?_) (fun c80 => ?_)
         ·have r81 := ifT r77 c80; clear r77
          refine Cov.seq ?_;refine Cov.region rfl ?_;refine Cov.q .ro (.assign rfl) rfl ?_;refine Cov.region_end ?_;refine Cov.prune [(2, _)] ⟨rfl, trivial⟩ ?_
          cases r81
          refine Cov.drop 1 0 [] _ rfl rfl ?_
          refine Cov.retS (c := ⟨55, none⟩) (.inr ⟨_, rfl⟩) [.tmp 2] [_] rfl Try.func55 Try.results55 ⟨RV.tmp rfl, trivial⟩ (fun _ h => List.mem_cons_of_mem _ h) ⟨rfl, rfl, rfl⟩
         ·have r82 := ifBF r77 c80; clear r77
          refine Cov.skip ?_;refine Cov.inBlock ?_;refine Cov.region rfl ?_;refine Cov.q .ro (.addw rfl rfl) rfl ?_;refine Cov.q .ro (.move rfl) rfl ?_;refine Cov.region_end ?_;refine Cov.prune [(42, _), (1, _), (3, _), (40, _), (41, _)] ⟨rfl, rfl, rfl, rfl, rfl, trivial⟩ ?_
          refine Cov.prune _ ?_ (Cov.same rfl rfl rfl (hb57 ((i53 + 1), xs66) ⟨(drop_succ g55), r82⟩ (Nat.lt_succ_self _)))
          exact ⟨(congrArg (fun z => some (Value.int .i64 z)) (idx_wrap (SlR.len s0_3) g55)), rfl, rfl, rfl, rfl, trivial⟩
    ·intro hb17
     refine Cov.split 29 rfl (fun c16 => ?_) (fun c16 => ?_)
     ·refine Cov.g_off rfl rfl rfl ?_
      refine Cov.g_off rfl rfl rfl ?_;refine Cov.g_off rfl rfl rfl ?_;refine Cov.q .ro (.pick_t rfl rfl) rfl ?_
      refine Cov.prune _ ?_ (Cov.same rfl rfl rfl (hb17 () trivial))
      exact ⟨dor_t c16, rfl, rfl, trivial⟩
     ·refine Cov.g_on rfl ?_
      refine Cov.q .ro (.fieldAddr 2 rfl fl57_2 ty3.sz rfl) rfl ?_;refine Cov.g_on rfl ?_;refine Cov.q .ro (.load_own 0 rfl rfl ty3 rfl) rfl ?_;refine Cov.g_on rfl ?_;refine Cov.q .ro (.gtr rfl rfl) rfl ?_;refine Cov.q .ro (.pick_f rfl rfl) rfl ?_
      refine Cov.prune _ ?_ (Cov.same rfl rfl rfl (hb17 () trivial))
      exact ⟨dor_f c16, rfl, rfl, trivial⟩
 ·intro hb7
  refine Cov.split 17 rfl (fun c6 => ?_) (fun c6 => ?_)
  ·refine Cov.g_off rfl rfl rfl ?_
   refine Cov.g_off rfl rfl rfl ?_;refine Cov.g_off rfl rfl rfl ?_;refine Cov.q .ro (.pick_t rfl rfl) rfl ?_
   refine Cov.prune _ ?_ (Cov.same rfl rfl rfl (hb7 () trivial))
   exact ⟨dor_t c6, rfl, rfl, rfl, trivial⟩
  ·refine Cov.g_on rfl ?_
   refine Cov.q .ro (.fieldAddr 0 rfl fl57_0 ty3.sz rfl) rfl ?_;refine Cov.g_on rfl ?_;refine Cov.q .ro (.load_own 0 rfl rfl ty3 rfl) rfl ?_;refine Cov.g_on rfl ?_;refine Cov.q .ro (.geq rfl rfl) rfl ?_;refine Cov.q .ro (.pick_f rfl rfl) rfl ?_
   refine Cov.prune _ ?_ (Cov.same rfl rfl rfl (hb7 () trivial))
   exact ⟨dor_f c6, rfl, rfl, rfl, trivial⟩
set_option maxHeartbeats 4000000 in
set_option maxRecDepth 100000 in
theorem table_New_c {Fs : List Hp} {G : Hp} {x0 : Int} {x1_0 : Int} {x2 : Int} {a3 : Option Addr} {k3 : Nat} {x3 : List (List Int)} {r : ((Int × Int × Int × (List (List Int))) × Int)} (hG : G ∈ Fs) (s3 : SlR (Rep.sl (Rep.int .i64)) G a3 k3 x3) (h : table_New x0 x1_0 x2 x3 = some r) : RetW Try.prog 31 #[.int .i64 x0, .agg #[.int .i64 x1_0], .int .i64 x2, .slice a3 x3.length k3] Fs [] [] (fun v bo so G => ∃ a0 : Option Addr, ∃ k0 : Nat, v = .tuple #[.agg #[.int .i64 r.1.1, .int .i64 r.1.2.1, .int .i64 r.1.2.2.1, .slice a0 r.1.2.2.2.length k0], .int .i64 r.2] ∧ bo = [] ∧ so = [] ∧ SlR (Rep.sl (Rep.int .i64)) G a0 k0 r.1.2.2.2) := by
 unfold table_New at h
 try dsimp only at h
 refine RetW.of (vs := [_, _, _, _]) Try.func31 rfl Try.ntmps31 [(0, _), (1, _), (2, _), (3, _)] ⟨rfl, rfl, rfl, rfl, trivial⟩ rfl hG fun w0 S0 hS0 B0 => ?_
 refine Cov.seq ?_;refine Cov.region rfl ?_
 refine Cov.box [_] .ro rfl rfl rfl (fun b1 hb1 => ?_)
 refine Cov.alloc .ro ty57 rfl (fun b2 hb2 => ?_)
 refine Cov.q .ro (.assign rfl) rfl ?_;refine Cov.region_end ?_;refine Cov.seq ?_;refine Cov.region rfl ?_;refine Cov.q .ro (.move rfl) rfl ?_;refine Cov.q .ro (.load_own_a 1 [_] rfl rfl ty54 rfl) rfl ?_;refine Cov.q .ro (.move rfl) rfl ?_;refine Cov.q .ro (.move rfl) rfl ?_;refine Cov.q .ro (.build [_, _, _, _] [(0, _), (1, _), (2, _), (3, _)] ty57 pl57 rfl rfl) rfl ?_
 refine Cov.alloc .ro ty57 rfl (fun b3 hb3 => ?_)
 refine Cov.store 0 [_, _, _, _] [_, _, _] .ro rfl rfl rfl ty57 rfl rfl rfl rfl ?_;refine Cov.region_end ?_;refine Cov.seq ?_;refine Cov.seq ?_;refine Cov.region rfl ?_;refine Cov.q .ro (.load_own_a 0 [_, _, _, _] rfl rfl ty57 rfl) rfl ?_
 obtain ⟨u4, hu4, r5⟩ := bind_some h; clear h
 refine Cov.callS (b1 := []) (b2 := [_, _, _]) (s1 := []) [_] [] .ro rfl rfl Try.call55 rfl rfl (table_Check_c (G := G) List.mem_cons_self s3 hu4) rfl (fun v7 bo so h6 => ?_)
 obtain ⟨rfl, rfl, rfl⟩ := h6
 refine Cov.same (bl' := [_, _, _]) (sl' := []) rfl rfl rfl ?_;refine Cov.q .ro (.assign rfl) rfl ?_;refine Cov.region_end ?_;refine Cov.seq ?_;refine Cov.region rfl ?_;refine Cov.q .ro (.move rfl) rfl ?_;refine Cov.q .ro (.neq rfl rfl) rfl ?_;refine Cov.region_end ?_;refine Cov.prune [(3, _), (8, _), (10, _), (11, _), (22, _)] ⟨rfl, rfl, rfl, rfl, rfl, trivial⟩ ?_
 refine Cov.cond_dec rfl (fun c8 => ?_) (fun c8 => ?_)
 ·have r9 := ifT r5 c8; clear r5
  refine Cov.seq ?_;refine Cov.region rfl ?_;refine Cov.q .ro (.build [_, _, _, _] [] ty57 pl57 rfl rfl) rfl ?_;refine Cov.q .ro (.move rfl) rfl ?_;refine Cov.store 1 [_, _, _, _] [_, _, _] .ro rfl rfl rfl ty57 rfl rfl rfl rfl ?_;refine Cov.q .ro (.assign rfl) rfl ?_;refine Cov.region_end ?_
  cases r9
  refine Cov.retWD 3 (c := ⟨31, none⟩) (.inr ⟨_, rfl⟩) [.cell 8 57, .tmp 9] [_, _] rfl Try.func31 Try.results31 ⟨RV.cell_a 1 [_, _, _, _] rfl rfl ty57 rfl, RV.tmp rfl, trivial⟩ (fun _ h => List.mem_cons_of_mem _ h) List.mem_cons_self B0 (by subst hS0; simp [blks]) (fun G' hg => ⟨none, 0, rfl, rfl, rfl, (SlR.mono hg (SlR.nil (Rp' := (Rep.sl (Rep.int .i64)))))⟩)
 ·have r10 := ifF r5 c8; clear r5
  refine Cov.skip ?_;refine Cov.seq ?_;refine Cov.region rfl ?_;refine Cov.q .ro (.fieldAddr 3 rfl fl57_3 ty55.sz rfl) rfl ?_;refine Cov.store 0 [_, _, _, _] [_, _, _] .ro rfl rfl rfl ty55 rfl rfl rfl rfl ?_;refine Cov.region_end ?_;refine Cov.seq ?_;refine Cov.seq ?_;refine Cov.region rfl ?_
  refine Cov.q .ro (.move rfl) rfl ?_;refine Cov.q .ro (.len_sl rfl rfl sl55) rfl ?_;refine Cov.q .ro (.move rfl) rfl ?_;refine Cov.region_end ?_;refine Cov.cutB (β := Hp × Int × Int × Int × List (List Int) × Option Addr × Nat × List Value × Int × Int × Int × Int) (fun y => []) [(8, _), (10, _)] (fun y => y.1 :: Fs) (fun y => [(b3, .cells #[.int .i64 y.2.1, .int .i64 y.2.2.1, .int .i64 y.2.2.2.1, .slice y.2.2.2.2.2.1 y.2.2.2.2.1.length y.2.2.2.2.2.2.1] 57 (0, 0)), (b2, .cells #[.int .i64 y.2.2.2.2.2.2.2.2.1, .int .i64 y.2.2.2.2.2.2.2.2.2.1, .int .i64 y.2.2.2.2.2.2.2.2.2.2.1, .slice none 0 0] 57 (0, 0)), (b1, .cells #[.int .i64 y.2.2.2.2.2.2.2.2.2.2.2] 54 (0, 0))]) [] (fun y => [.s (.slice y.2.2.2.2.2.1 y.2.2.2.2.1.length y.2.2.2.2.2.2.1) 39 1 y.2.2.2.2.1.length y.2.2.2.2.2.2.2.1]) [] (fun y => HpLe G y.1 ∧ Bd w0 S0 Fs y.1 ∧ OL (Rep.sl (Rep.int .i64)) y.1 y.2.2.2.2.2.2.2.1 y.2.2.2.2.1 ∧ table_New_J1 y.2.1 y.2.2.1 y.2.2.2.1 y.2.2.2.2.1 y.2.2.2.2.2.2.2.2.1 y.2.2.2.2.2.2.2.2.2.1 y.2.2.2.2.2.2.2.2.2.2.1 y.2.2.2.2.2.2.2.2.2.2.2 = some r) ⟨rfl, rfl, trivial⟩ [] rfl [] rfl ?_ ?_
  ·intro y hI
   obtain ⟨G153, v157, v158, v159, v160, a161, k162, cs163, v166, v167, v168, v169⟩ := y
   obtain ⟨e154, B155, o164, r171⟩ := hI
   try dsimp only at e154 B155 o164 r171
   refine Cov.prune [(8, _), (10, _)] ⟨rfl, rfl, trivial⟩ ?_;refine Cov.same (bl' := [(b3, .cells #[.int .i64 v157, .int .i64 v158, .int .i64 v159, .slice a161 v160.length k162] 57 (0, 0)), (b2, .cells #[.int .i64 v166, .int .i64 v167, .int .i64 v168, .slice none 0 0] 57 (0, 0)), (b1, .cells #[.int .i64 v169] 54 (0, 0))]) (sl' := [.s (.slice a161 v160.length k162) 39 1 v160.length cs163]) (Fs' := G153 :: Fs) rfl rfl rfl ?_
   unfold table_New_J1 at r171
   try dsimp only at r171
   refine Cov.seq ?_;refine Cov.region rfl ?_;refine Cov.q .ro (.load_own_a 0 [_, _, _, _] rfl rfl ty57 rfl) rfl ?_;refine Cov.store 1 [_, _, _, _] [_, _, _] .ro rfl rfl rfl ty57 rfl rfl rfl rfl ?_;refine Cov.q .ro (.assign rfl) rfl ?_;refine Cov.region_end ?_
   refine Cov.freezeR 0 rfl rfl o164 [] rfl B155 (fun G172 e173 B174 s175 => ?_)
   cases r171
   refine Cov.retWD 3 (c := ⟨31, none⟩) (.inr ⟨_, rfl⟩) [.cell 8 57, .tmp 9] [_, _] rfl Try.func31 Try.results31 ⟨RV.cell_a 1 [_, _, _, _] rfl rfl ty57 rfl, RV.tmp rfl, trivial⟩ (fun _ h => List.mem_cons_of_mem _ h) List.mem_cons_self B174 (by subst hS0; simp [blks]) (fun G' hg => ⟨a161, k162, rfl, rfl, rfl, (SlR.mono hg s175)⟩)
  ·intro hb177
   refine Cov.block ?_;refine Cov.own_nil 39 1 ?_
   refine Cov.loop2 (α := Nat × List (List Int) × Hp × List (List Int) × Option Addr × Nat × List Value) (fun y => [(28, .int .i64 (y.1 : Int))]) [(8, _), (10, _), (26, _), (27, _)] (fun y => [y.2.2.1]) (fun y => [(b3, .cells #[.int .i64 x0, .int .i64 x1_0, .int .i64 x2, .slice y.2.2.2.2.1 y.2.2.2.1.length y.2.2.2.2.2.1] 57 (0, 0))]) [_, _] (fun y => [.s (.slice y.2.2.2.2.1 y.2.2.2.1.length y.2.2.2.2.2.1) 39 1 y.2.2.2.1.length y.2.2.2.2.2.2]) [] (fun y => HpLe G y.2.2.1 ∧ Bd w0 S0 Fs y.2.2.1 ∧ OL (Rep.sl (Rep.int .i64)) y.2.2.1 y.2.2.2.2.2.2 y.2.2.2.1 ∧ List.drop y.1 x3 = y.2.1 ∧ table_New_L2 table_New_J1 x0 x1_0 x2 y.2.1 y.2.2.2.1 = some r) (fun y => y.2.1.length) (0, x3, G, ([] : List (List Int)), none, 0, []) ⟨(HpLe.refl _), B0, (OL.nil (Rp' := (Rep.sl (Rep.int .i64)))), rfl, r10⟩ ⟨rfl, rfl, rfl, rfl, rfl, trivial⟩ rfl rfl rfl (fun y hI hb282 => ?_)
   obtain ⟨i268, w269, G271, v275, a276, k277, cs278⟩ := y
   obtain ⟨e272, B273, o279, g270, r281⟩ := hI
   try dsimp only at e272 B273 o279 g270 r281
   refine Cov.prune [(28, .int .i64 (i268 : Int)), (8, _), (10, _), (26, _), (27, _)] ⟨rfl, rfl, rfl, rfl, rfl, trivial⟩ ?_;refine Cov.same (bl' := [(b3, .cells #[.int .i64 x0, .int .i64 x1_0, .int .i64 x2, .slice a276 v275.length k277] 57 (0, 0)), _, _]) (sl' := [.s (.slice a276 v275.length k277) 39 1 v275.length cs278]) (Fs' := G271 :: Fs) rfl rfl rfl ?_
   cases w269 with
   | nil =>
    rw [table_New_L2] at r281; try dsimp only at r281
    refine Cov.seq ?_;refine Cov.region rfl ?_;refine Cov.q .ro (.lss rfl rfl) rfl ?_;refine Cov.region_end ?_;refine Cov.seq ?_
    refine Cov.cond_dec rfl (fun c => absurd c (drop_nil g270)) (fun _ => ?_)
    refine Cov.exit rfl ?_
    refine Cov.prune _ ?_ (Cov.same rfl rfl rfl (hb177 (G271, x0, x1_0, x2, v275, a276, k277, cs278, 0, 0, 0, x1_0) ⟨e272, B273, o279, r281⟩))
    exact ⟨rfl, rfl, trivial⟩
   | cons x289 xs290 =>
    have r288 : table_New_B2 table_New_J1 x0 x1_0 x2 (table_New_L2 table_New_J1 x0 x1_0 x2 xs290) x289 v275 = some r := r281; clear r281; unfold table_New_B2 at r288; try dsimp only at r288
    refine Cov.seq ?_;refine Cov.region rfl ?_;refine Cov.q .ro (.lss rfl rfl) rfl ?_;refine Cov.region_end ?_;refine Cov.seq ?_
    refine Cov.cond_dec rfl (fun _ => ?_) (fun c => absurd (drop_lt g270) c)
    refine Cov.skip ?_;refine Cov.seq ?_;refine Cov.block ?_;refine Cov.seq ?_;refine Cov.region rfl ?_
    obtain ⟨c291, p292, h293⟩ := SlR.get (SlR.mono e272 s3) (drop_idx g270)
    obtain ⟨a294, k295, rfl, s296⟩ := h293
    refine Cov.q .ro (.idxR (SlR.mono e272 s3) rfl rfl (drop_idx g270) sl55 ty39.sz) rfl ?_;refine Cov.q .ro (.load_rp p292 List.mem_cons_self rfl ty39 rfl) rfl ?_;refine Cov.q .ro (.assign rfl) rfl ?_;refine Cov.region_end ?_;refine Cov.drawL (.q 0 (.q 1 (.q 2 (.e 3 1 (.e 4 1 (.e 5 1 (.q 6 (.e 7 2 .nil)))))))) [_, _, _] (by kernel_rfl) (by kernel_rfl) (pick_mem [0, 1, 2] rfl) ?_;refine Cov.dq (.fieldAddr 3 rfl fl57_3 ty55.sz rfl) rfl ?_;refine Cov.dq (.load_own 0 rfl rfl ty55 rfl) rfl ?_;refine Cov.dq (.move rfl) rfl ?_
    obtain ⟨u297, hu297, r298⟩ := bind_some r288; clear r288
    refine Cov.callS (b1 := []) (b2 := [_, _, _]) (s1 := []) [_] [] .d1 rfl rfl Try.call23 rfl rfl (slices_Clone_Lintint_c (G := G271) List.mem_cons_self s296 hu297) rfl (fun v300 bo so h299 => ?_)
    obtain ⟨a302, k303, cs304, rfl, rfl, rfl, o305⟩ := h299
    refine Cov.same (bl' := [_, _, _]) (sl' := [_, _]) rfl rfl rfl ?_;refine Cov.clsL (HpLe.refl _) (pick_mem [0, 1, 2] rfl) ?_
    refine Cov.freezeR 0 rfl rfl o305 [_] rfl B273 (fun G306 e307 B308 s309 => ?_)
    refine Cov.lit [_] [(0, _)] .d1 sl55 ty39 rfl rfl rfl rfl rfl rfl (fun b311 hb311 => ?_)
    have o312 : OL (Rep.sl (Rep.int .i64)) G306 [.slice a302 u297.length k303] ([u297] : List (List Int)) := ((OL.cons rfl (Rep.slI s309) (OL.nil (Rp' := (Rep.sl (Rep.int .i64))))) :)
    refine Cov.reval 36 (n' := ([u297] : List (List Int)).length) rfl rfl ?_;refine Cov.clsL e307 (pick_mem [0, 1, 2] rfl) ?_
    obtain ⟨u318, hu318, r319⟩ := bind_some r298; clear r298
    refine Cov.appO (Q := (Rep.sl (Rep.int .i64))) 0 .d1 sl55 ty39 rfl rfl rfl rfl rfl rfl (OL.mono e307 o279) o312 rfl rfl rfl B308 hu318 rfl (fun a314 k315 cs316 o317 => ?_)
    refine Cov.clsL e307 (pick_mem [0, 1, 2] rfl) ?_;refine Cov.dq (.fieldAddr 3 rfl fl57_3 ty55.sz rfl) rfl ?_;refine Cov.store 0 [_, _, _, _] [_, _, _] .d2 rfl rfl rfl ty55 rfl rfl rfl rfl ?_;refine Cov.draw_end ?_;refine Cov.inBlock ?_;refine Cov.region rfl ?_;refine Cov.q .ro (.addw rfl rfl) rfl ?_;refine Cov.q .ro (.move rfl) rfl ?_;refine Cov.region_end ?_
    refine Cov.prune _ ?_ (Cov.same rfl rfl rfl (hb282 ((i268 + 1), xs290, G306, u318, a314, k315, cs316) ⟨(HpLe.trans e272 e307), B308, o317, (drop_succ g270), r319⟩ (Nat.lt_succ_self _)))
    exact ⟨(congrArg (fun z => some (Value.int .i64 z)) (idx_wrap (SlR.len s3) g270)), rfl, rfl, rfl, rfl, trivial⟩
set_option maxHeartbeats 4000000 in
set_option maxRecDepth 100000 in
theorem lookup_Table_c {Fs : List Hp} {G : Hp} {x0 : Int} {x1_0 : Int} {x2_0 : Int} {a2_1 : Option Addr} {k2_1 : Nat} {x2_1 : List (Int × Int)} {x2_2 : Int} {a2_3 : Option Addr} {k2_3 : Nat} {x2_3 : List (List (ByteArray × Int))} {r : ((Int × Int × Int × (List (List Int))) × Int)} (hG : G ∈ Fs) (s2_1 : SlR (Rep.pair (Rep.int .i64) (Rep.int .i64)) G a2_1 k2_1 x2_1) (s2_3 : SlR (Rep.sl (Rep.pair Rep.str (Rep.int .i64))) G a2_3 k2_3 x2_3) (h : lookup_Table x0 x1_0 ((x2_0, x2_1), x2_2, x2_3) = some r) : RetW Try.prog 15 #[.int .i64 x0, .agg #[.int .i64 x1_0], .agg #[.int .i64 x2_0, .slice a2_1 x2_1.length k2_1, .int .i64 x2_2, .slice a2_3 x2_3.length k2_3]] Fs [] [] (fun v bo so G => ∃ a0 : Option Addr, ∃ k0 : Nat, v = .tuple #[.agg #[.int .i64 r.1.1, .int .i64 r.1.2.1, .int .i64 r.1.2.2.1, .slice a0 r.1.2.2.2.length k0], .int .i64 r.2] ∧ bo = [] ∧ so = [] ∧ SlR (Rep.sl (Rep.int .i64)) G a0 k0 r.1.2.2.2) := by
 unfold lookup_Table at h
 try dsimp only at h
 refine RetW.of (vs := [_, _, _]) Try.func15 rfl Try.ntmps15 [(0, _), (1, _), (2, _)] ⟨rfl, rfl, rfl, trivial⟩ rfl hG fun w0 S0 hS0 B0 => ?_
 refine Cov.seq ?_;refine Cov.region rfl ?_
 refine Cov.box [_] .ro rfl rfl rfl (fun b1 hb1 => ?_)
 refine Cov.box [_, _, _, _] .ro rfl rfl rfl (fun b2 hb2 => ?_)
 refine Cov.alloc .ro ty57 rfl (fun b3 hb3 => ?_)
 refine Cov.q .ro (.assign rfl) rfl ?_;refine Cov.region_end ?_;refine Cov.seq ?_;refine Cov.seq ?_;refine Cov.region rfl ?_;refine Cov.q .ro (.load_own_a 1 [_, _, _, _] rfl rfl ty31 rfl) rfl ?_
 obtain ⟨u4, hu4, r5⟩ := bind_some h; clear h
 refine Cov.callS (b1 := []) (b2 := [_, _, _]) (s1 := []) [_] [] .ro rfl rfl Try.call28 rfl rfl (keyword_Check_c (G := G) List.mem_cons_self s2_1 s2_3 hu4) rfl (fun v7 bo so h6 => ?_)
 obtain ⟨rfl, rfl, rfl⟩ := h6
 refine Cov.same (bl' := [_, _, _]) (sl' := []) rfl rfl rfl ?_;refine Cov.q .ro (.assign rfl) rfl ?_;refine Cov.region_end ?_;refine Cov.seq ?_;refine Cov.region rfl ?_;refine Cov.q .ro (.move rfl) rfl ?_;refine Cov.q .ro (.neq rfl rfl) rfl ?_;refine Cov.region_end ?_
 refine Cov.cond_dec rfl (fun c8 => ?_) (fun c8 => ?_)
 ·have r9 := ifT r5 c8; clear r5
  refine Cov.seq ?_;refine Cov.region rfl ?_;refine Cov.q .ro (.build [_, _, _, _] [] ty57 pl57 rfl rfl) rfl ?_;refine Cov.q .ro (.move rfl) rfl ?_;refine Cov.store 0 [_, _, _, _] [_, _, _] .ro rfl rfl rfl ty57 rfl rfl rfl rfl ?_;refine Cov.q .ro (.assign rfl) rfl ?_;refine Cov.region_end ?_
  cases r9
  refine Cov.retWD 3 (c := ⟨15, none⟩) (.inr ⟨_, rfl⟩) [.cell 6 57, .tmp 7] [_, _] rfl Try.func15 Try.results15 ⟨RV.cell_a 0 [_, _, _, _] rfl rfl ty57 rfl, RV.tmp rfl, trivial⟩ (fun _ h => List.mem_cons_of_mem _ h) List.mem_cons_self B0 (by subst hS0; simp [blks]) (fun G' hg => ⟨none, 0, rfl, rfl, rfl, (SlR.mono hg (SlR.nil (Rp' := (Rep.sl (Rep.int .i64)))))⟩)
 ·have r10 := ifF r5 c8; clear r5
  refine Cov.skip ?_;refine Cov.seq ?_;refine Cov.block ?_;refine Cov.seq ?_;refine Cov.region rfl ?_;refine Cov.q .ro (.load_own_a 2 [_] rfl rfl ty54 rfl) rfl ?_
  obtain ⟨u11, hu11, r12⟩ := bind_some r10; clear r10
  refine Cov.callS (b1 := []) (b2 := [_, _, _]) (s1 := []) [_] [] .ro rfl rfl Try.call29 rfl rfl (field_Check_c (G := G) List.mem_cons_self  hu11) rfl (fun v14 bo so h13 => ?_)
  obtain ⟨rfl, rfl, rfl⟩ := h13
  refine Cov.same (bl' := [_, _, _]) (sl' := []) rfl rfl rfl ?_;refine Cov.q .ro (.neq rfl rfl) rfl ?_;refine Cov.q .ro (.move rfl) rfl ?_;refine Cov.cutR 4 (β := Unit) (fun y => [(31, .bool (decide ((u11 ≠ 0) ∨ (x1_0 ≤ 256))))]) [(0, _), (4, _), (5, _), (6, _)] (fun y => G :: Fs) (fun y => []) [_, _, _] (fun y => []) [] (fun y => True) ⟨rfl, rfl, rfl, rfl, trivial⟩ [0, 1, 2] rfl [] rfl ?_ ?_
  ·rintro _ _
   refine Cov.prune [(31, .bool (decide ((u11 ≠ 0) ∨ (x1_0 ≤ 256)))), (0, _), (4, _), (5, _), (6, _)] ⟨rfl, rfl, rfl, rfl, rfl, trivial⟩ ?_;refine Cov.same (bl' := [_, _, _]) (sl' := []) (Fs' := G :: Fs) rfl rfl rfl ?_;refine Cov.q .ro (.assign rfl) rfl ?_;refine Cov.region_end ?_
   refine Cov.cond_dec rfl (fun c19 => ?_) (fun c19 => ?_)
   ·have r20 := ifT r12 c19; clear r12
    refine Cov.seq ?_;refine Cov.region rfl ?_;refine Cov.q .ro (.build [_, _, _, _] [] ty57 pl57 rfl rfl) rfl ?_;refine Cov.store 0 [_, _, _, _] [_, _, _] .ro rfl rfl rfl ty57 rfl rfl rfl rfl ?_;refine Cov.q .ro (.assign rfl) rfl ?_;refine Cov.region_end ?_
    cases r20
    refine Cov.retWD 3 (c := ⟨15, none⟩) (.inr ⟨_, rfl⟩) [.cell 6 57, .tmp 7] [_, _] rfl Try.func15 Try.results15 ⟨RV.cell_a 0 [_, _, _, _] rfl rfl ty57 rfl, RV.tmp rfl, trivial⟩ (fun _ h => List.mem_cons_of_mem _ h) List.mem_cons_self B0 (by subst hS0; simp [blks]) (fun G' hg => ⟨none, 0, rfl, rfl, rfl, (SlR.mono hg (SlR.nil (Rp' := (Rep.sl (Rep.int .i64)))))⟩)
   ·have r21 := ifF r12 c19; clear r12
    refine Cov.seq ?_;refine Cov.region rfl ?_;refine Cov.q .ro (.fieldAddr 2 rfl fl31_1 ty3.sz rfl) rfl ?_;refine Cov.q .ro (.load_own 1 rfl rfl ty3 rfl) rfl ?_
    obtain ⟨u22, hu22, r23⟩ := bind_some r21; clear r21
    refine Cov.callS (b1 := []) (b2 := [_, _, _]) (s1 := []) [_] [] .ro rfl rfl Try.call16 rfl rfl (lookup_Width_c (G := G) List.mem_cons_self  hu22) rfl (fun v25 bo so h24 => ?_)
    obtain ⟨rfl, rfl, rfl⟩ := h24
    refine Cov.same (bl' := [_, _, _]) (sl' := []) rfl rfl rfl ?_;refine Cov.q .ro (.gtr rfl rfl) rfl ?_;refine Cov.q .ro (.assign rfl) rfl ?_;refine Cov.region_end ?_
    refine Cov.cond_dec rfl (fun c26 => ?_) (fun c26 => ?_)
    ·have r27 := ifT r23 c26; clear r23
     refine Cov.seq ?_;refine Cov.region rfl ?_;refine Cov.q .ro (.build [_, _, _, _] [] ty57 pl57 rfl rfl) rfl ?_;refine Cov.store 0 [_, _, _, _] [_, _, _] .ro rfl rfl rfl ty57 rfl rfl rfl rfl ?_;refine Cov.q .ro (.assign rfl) rfl ?_;refine Cov.region_end ?_
     cases r27
     refine Cov.retWD 3 (c := ⟨15, none⟩) (.inr ⟨_, rfl⟩) [.cell 6 57, .tmp 7] [_, _] rfl Try.func15 Try.results15 ⟨RV.cell_a 0 [_, _, _, _] rfl rfl ty57 rfl, RV.tmp rfl, trivial⟩ (fun _ h => List.mem_cons_of_mem _ h) List.mem_cons_self B0 (by subst hS0; simp [blks]) (fun G' hg => ⟨none, 0, rfl, rfl, rfl, (SlR.mono hg (SlR.nil (Rp' := (Rep.sl (Rep.int .i64)))))⟩)
    ·have r28 := ifF r23 c26; clear r23
     refine Cov.skip ?_;refine Cov.inBlock ?_;refine Cov.seq ?_;refine Cov.region rfl ?_;refine Cov.q .ro (.assign rfl) rfl ?_;refine Cov.region_end ?_;refine Cov.seq ?_;refine Cov.seq ?_;refine Cov.region rfl ?_
     refine Cov.q .ro (.fieldAddr 3 rfl fl31_2 ty29.sz rfl) rfl ?_;refine Cov.q .ro (.load_own 1 rfl rfl ty29 rfl) rfl ?_;refine Cov.q .ro (.len_sl rfl rfl sl29) rfl ?_;refine Cov.q .ro (.move rfl) rfl ?_;refine Cov.region_end ?_;refine Cov.cutB (β := Hp × List (List Int) × Option Addr × Nat × List Value × Int × Int × Int × Int × Int × Int) (fun y => [(9, .slice y.2.2.1 y.2.1.length y.2.2.2.1)]) [(0, _), (4, _), (5, _), (6, _)] (fun y => y.1 :: Fs) (fun y => [(b3, .cells #[.int .i64 y.2.2.2.2.2.1, .int .i64 y.2.2.2.2.2.2.1, .int .i64 y.2.2.2.2.2.2.2.1, .slice none 0 0] 57 (0, 0)), (b2, .cells #[.int .i64 y.2.2.2.2.2.2.2.2.1, .slice a2_1 x2_1.length k2_1, .int .i64 y.2.2.2.2.2.2.2.2.2.1, .slice a2_3 x2_3.length k2_3] 31 (0, 0)), (b1, .cells #[.int .i64 y.2.2.2.2.2.2.2.2.2.2] 54 (0, 0))]) [] (fun y => [.s (.slice y.2.2.1 y.2.1.length y.2.2.2.1) 39 1 y.2.1.length y.2.2.2.2.1]) [] (fun y => HpLe G y.1 ∧ Bd w0 S0 Fs y.1 ∧ OL (Rep.sl (Rep.int .i64)) y.1 y.2.2.2.2.1 y.2.1 ∧ (lookup_Table_J1 x0) y.2.1 y.2.2.2.2.2.1 y.2.2.2.2.2.2.1 y.2.2.2.2.2.2.2.1 y.2.2.2.2.2.2.2.2.1 y.2.2.2.2.2.2.2.2.2.1 y.2.2.2.2.2.2.2.2.2.2 = some r) ⟨rfl, rfl, rfl, rfl, trivial⟩ [] rfl [] rfl ?_ ?_
     ·intro y hI
      obtain ⟨G844, v848, a849, k850, cs851, v854, v855, v856, v857, v858, v859⟩ := y
      obtain ⟨e845, B846, o852, r861⟩ := hI
      try dsimp only at e845 B846 o852 r861
      refine Cov.prune [(9, .slice a849 v848.length k850), (0, _), (4, _), (5, _), (6, _)] ⟨rfl, rfl, rfl, rfl, rfl, trivial⟩ ?_;refine Cov.same (bl' := [(b3, .cells #[.int .i64 v854, .int .i64 v855, .int .i64 v856, .slice none 0 0] 57 (0, 0)), (b2, .cells #[.int .i64 v857, .slice a2_1 x2_1.length k2_1, .int .i64 v858, .slice a2_3 x2_3.length k2_3] 31 (0, 0)), (b1, .cells #[.int .i64 v859] 54 (0, 0))]) (sl' := [.s (.slice a849 v848.length k850) 39 1 v848.length cs851]) (Fs' := G844 :: Fs) rfl rfl rfl ?_
      unfold lookup_Table_J1 at r861
      try dsimp only at r861
      refine Cov.seq ?_
      refine Cov.freezeR 0 rfl rfl o852 [] rfl B846 (fun G865 e866 B867 s868 => ?_)
      refine Cov.drawL (.q 0 (.q 1 (.q 2 (.q 3 (.q 5 (.e 4 1 (.e 6 1 (.q 7 (.q 8 (.e 9 1 (.q 10 .nil))))))))))) [_, _] (by kernel_rfl) (by kernel_rfl) (pick_mem [1, 2] rfl) ?_;refine Cov.dq (.move rfl) rfl ?_;refine Cov.dq (.load_own_a 1 [_] rfl rfl ty54 rfl) rfl ?_;refine Cov.dq (.fieldAddr 2 rfl fl31_1 ty3.sz rfl) rfl ?_;refine Cov.dq (.load_own 0 rfl rfl ty3 rfl) rfl ?_;refine Cov.dq (.move rfl) rfl ?_
      obtain ⟨u870, hu870, r871⟩ := bind_some r861; clear r861
      refine Cov.callS (b1 := []) (b2 := [_, _, _]) (s1 := []) [_] [] .d1 rfl rfl Try.call16 rfl rfl (lookup_Width_c (G := G865) List.mem_cons_self  hu870) rfl (fun v873 bo so h872 => ?_)
      obtain ⟨rfl, rfl, rfl⟩ := h872
      refine Cov.same (bl' := [_, _, _]) (sl' := []) rfl rfl rfl ?_;refine Cov.clsL (HpLe.refl _) (pick_mem [1, 2] rfl) ?_
      obtain ⟨u874, hu874, r875⟩ := bind_some r871; clear r871
      refine Cov.callW (b1 := []) (b2 := [_, _, _]) (s1 := []) [_, _, _, _] [] .d1 rfl rfl Try.call31 rfl rfl (table_New_c (G := G865) List.mem_cons_self s868 hu874) rfl B867 (fun v877 bo so G878 e879 B880 h876 => ?_)
      obtain ⟨a882, k883, rfl, rfl, rfl, s884⟩ := h876
      refine Cov.same (bl' := [_, _, _]) (sl' := []) rfl rfl rfl ?_;refine Cov.clsL e879 (pick_mem [1, 2] rfl) ?_;refine Cov.dq (.extract rfl rfl) rfl ?_;refine Cov.dq (.extract rfl rfl) rfl ?_;refine Cov.store 0 [_, _, _, _] [_, _, _] .d1 rfl rfl rfl ty57 rfl rfl rfl rfl ?_;refine Cov.clsL e879 (pick_mem [1, 2] rfl) ?_;refine Cov.dq (.assign rfl) rfl ?_;refine Cov.draw_end ?_;refine Cov.prune [(6, _), (7, _)] ⟨rfl, rfl, trivial⟩ ?_
      cases r875
      refine Cov.retWD 3 (c := ⟨15, none⟩) (.inr ⟨_, rfl⟩) [.cell 6 57, .tmp 7] [_, _] rfl Try.func15 Try.results15 ⟨RV.cell_a 0 [_, _, _, _] rfl rfl ty57 rfl, RV.tmp rfl, trivial⟩ (fun _ h => List.mem_cons_of_mem _ h) List.mem_cons_self B880 (by subst hS0; simp [blks]) (fun G' hg => ⟨a882, k883, rfl, rfl, rfl, (SlR.mono hg s884)⟩)
     ·intro hb885
      refine Cov.block ?_;refine Cov.own_nil 39 1 ?_;refine Cov.pull 2 rfl [_, _, _] rfl ?_;refine Cov.pull 2 rfl [_, _, _] rfl ?_;refine Cov.pull 2 rfl [_, _, _] rfl ?_
      refine Cov.loop2 (α := Nat × (List (List (ByteArray × Int))) × Hp × List (List Int) × Option Addr × Nat × List Value × Int × Int × Int × Int × Int × Int) (fun y => [(9, .slice y.2.2.2.2.1 y.2.2.2.1.length y.2.2.2.2.2.1), (42, .int .i64 (y.1 : Int))]) [(0, _), (4, _), (5, _), (6, _), (40, _), (41, _)] (fun y => [y.2.2.1]) (fun y => [(b3, .cells #[.int .i64 y.2.2.2.2.2.2.2.1, .int .i64 y.2.2.2.2.2.2.2.2.1, .int .i64 y.2.2.2.2.2.2.2.2.2.1, .slice none 0 0] 57 (0, 0)), (b2, .cells #[.int .i64 y.2.2.2.2.2.2.2.2.2.2.1, .slice a2_1 x2_1.length k2_1, .int .i64 y.2.2.2.2.2.2.2.2.2.2.2.1, .slice a2_3 x2_3.length k2_3] 31 (0, 0)), (b1, .cells #[.int .i64 y.2.2.2.2.2.2.2.2.2.2.2.2] 54 (0, 0))]) [] (fun y => [.s (.slice y.2.2.2.2.1 y.2.2.2.1.length y.2.2.2.2.2.1) 39 1 y.2.2.2.1.length y.2.2.2.2.2.2.1]) [] (fun y => HpLe G y.2.2.1 ∧ Bd w0 S0 Fs y.2.2.1 ∧ OL (Rep.sl (Rep.int .i64)) y.2.2.1 y.2.2.2.2.2.2.1 y.2.2.2.1 ∧ List.drop y.1 x2_3 = y.2.1 ∧ lookup_Table_L4 (lookup_Table_J1 x0) y.2.1 y.2.2.2.1 y.2.2.2.2.2.2.2.1 y.2.2.2.2.2.2.2.2.1 y.2.2.2.2.2.2.2.2.2.1 y.2.2.2.2.2.2.2.2.2.2.1 y.2.2.2.2.2.2.2.2.2.2.2.1 y.2.2.2.2.2.2.2.2.2.2.2.2 = some r) (fun y => y.2.1.length) (0, x2_3, G, ([] : List (List Int)), none, 0, [], 0, 0, 0, x2_0, x2_2, x1_0) ⟨(HpLe.refl _), B0, (OL.nil (Rp' := (Rep.sl (Rep.int .i64)))), rfl, r28⟩ ⟨rfl, rfl, rfl, rfl, rfl, rfl, rfl, rfl, trivial⟩ rfl rfl rfl (fun y hI hb1439 => ?_)
      obtain ⟨i1419, w1420, G1422, v1426, a1427, k1428, cs1429, v1432, v1433, v1434, v1435, v1436, v1437⟩ := y
      obtain ⟨e1423, B1424, o1430, g1421, r1438⟩ := hI
      try dsimp only at e1423 B1424 o1430 g1421 r1438
      refine Cov.prune [(9, .slice a1427 v1426.length k1428), (42, .int .i64 (i1419 : Int)), (0, _), (4, _), (5, _), (6, _), (40, _), (41, _)] ⟨rfl, rfl, rfl, rfl, rfl, rfl, rfl, rfl, trivial⟩ ?_;refine Cov.same (bl' := [(b3, .cells #[.int .i64 v1432, .int .i64 v1433, .int .i64 v1434, .slice none 0 0] 57 (0, 0)), (b2, .cells #[.int .i64 v1435, .slice a2_1 x2_1.length k2_1, .int .i64 v1436, .slice a2_3 x2_3.length k2_3] 31 (0, 0)), (b1, .cells #[.int .i64 v1437] 54 (0, 0))]) (sl' := [.s (.slice a1427 v1426.length k1428) 39 1 v1426.length cs1429]) (Fs' := G1422 :: Fs) rfl rfl rfl ?_
      cases w1420 with
      | nil =>
       rw [lookup_Table_L4] at r1438; try dsimp only at r1438
       refine Cov.seq ?_;refine Cov.region rfl ?_;refine Cov.q .ro (.lss rfl rfl) rfl ?_;refine Cov.region_end ?_;refine Cov.seq ?_
       refine Cov.cond_dec rfl (fun c => absurd c (drop_nil g1421)) (fun _ => ?_)
       refine Cov.exit rfl ?_
       refine Cov.prune _ ?_ (Cov.same rfl rfl rfl (hb885 (G1422, v1426, a1427, k1428, cs1429, v1432, v1433, v1434, v1435, v1436, v1437) ⟨e1423, B1424, o1430, r1438⟩))
       exact ⟨rfl, rfl, rfl, rfl, rfl, trivial⟩
      | cons x1445 xs1446 =>
       have r1444 : lookup_Table_B4 (lookup_Table_J1 x0) (lookup_Table_L4 (lookup_Table_J1 x0) xs1446) x1445 v1426 v1432 v1433 v1434 v1435 v1436 v1437 = some r := r1438; clear r1438; unfold lookup_Table_B4 at r1444; try dsimp only at r1444
       refine Cov.seq ?_;refine Cov.region rfl ?_;refine Cov.q .ro (.lss rfl rfl) rfl ?_;refine Cov.region_end ?_;refine Cov.seq ?_
       refine Cov.cond_dec rfl (fun _ => ?_) (fun c => absurd (drop_lt g1421) c)
       refine Cov.skip ?_;refine Cov.seq ?_;refine Cov.block ?_;refine Cov.seq ?_;refine Cov.region rfl ?_
       obtain ⟨c1447, p1448, h1449⟩ := SlR.get (SlR.mono e1423 s2_3) (drop_idx g1421)
       obtain ⟨a1450, k1451, rfl, s1452⟩ := h1449
       refine Cov.q .ro (.idxR (SlR.mono e1423 s2_3) rfl rfl (drop_idx g1421) sl29 ty32.sz) rfl ?_;refine Cov.q .ro (.load_rp p1448 List.mem_cons_self rfl ty32 rfl) rfl ?_;refine Cov.q .ro (.assign rfl) rfl ?_;refine Cov.region_end ?_;refine Cov.seq ?_;refine Cov.region rfl ?_;refine Cov.q .ro (.fieldAddr 2 rfl fl31_1 ty3.sz rfl) rfl ?_;refine Cov.q .ro (.load_own 1 rfl rfl ty3 rfl) rfl ?_;refine Cov.q .ro (.move rfl) rfl ?_
       obtain ⟨u1453, hu1453, r1454⟩ := bind_some r1444; clear r1444
       refine Cov.callS (b1 := []) (b2 := [_, _, _]) (s1 := []) [_, _] [] .ro rfl rfl Try.call30 rfl rfl (keyword_Encode_c (G := G1422) List.mem_cons_self s1452 hu1453) rfl (fun v1456 bo so h1455 => ?_)
       obtain ⟨rfl, rfl, rfl⟩ := h1455
       refine Cov.same (bl' := [_, _, _]) (sl' := [_]) rfl rfl rfl ?_;refine Cov.q .ro (.move rfl) rfl ?_;refine Cov.q .ro (.extract rfl rfl) rfl ?_;refine Cov.q .ro (.extract rfl rfl) rfl ?_;refine Cov.q .ro (.assign rfl) rfl ?_;refine Cov.q .ro (.assign rfl) rfl ?_;refine Cov.region_end ?_;refine Cov.seq ?_;refine Cov.seq ?_
       refine Cov.region rfl ?_;refine Cov.q .ro (.move rfl) rfl ?_;refine Cov.q .ro (.neq rfl rfl) rfl ?_;refine Cov.region_end ?_
       refine Cov.cond_dec rfl (fun c1457 => ?_) (fun c1457 => ?_)
       ·have r1458 := ifT r1454 c1457; clear r1454
        refine Cov.seq ?_;refine Cov.region rfl ?_;refine Cov.q .ro (.build [_, _, _, _] [] ty57 pl57 rfl rfl) rfl ?_;refine Cov.q .ro (.move rfl) rfl ?_;refine Cov.store 0 [_, _, _, _] [_, _, _] .ro rfl rfl rfl ty57 rfl rfl rfl rfl ?_;refine Cov.q .ro (.assign rfl) rfl ?_;refine Cov.region_end ?_;refine Cov.prune [(6, _), (7, _)] ⟨rfl, rfl, trivial⟩ ?_
        cases r1458
        refine Cov.drop 0 1 _ [] rfl rfl ?_
        refine Cov.retWD 3 (c := ⟨15, none⟩) (.inr ⟨_, rfl⟩) [.cell 6 57, .tmp 7] [_, _] rfl Try.func15 Try.results15 ⟨RV.cell_a 0 [_, _, _, _] rfl rfl ty57 rfl, RV.tmp rfl, trivial⟩ (fun _ h => List.mem_cons_of_mem _ h) List.mem_cons_self B1424 (by subst hS0; simp [blks]) (fun G' hg => ⟨none, 0, rfl, rfl, rfl, (SlR.mono hg (SlR.nil (Rp' := (Rep.sl (Rep.int .i64)))))⟩)
       ·have r1459 := ifF r1454 c1457; clear r1454
        refine Cov.skip ?_;refine Cov.seq ?_;refine Cov.region rfl ?_;refine Cov.q .ro (.assign rfl) rfl ?_;refine Cov.region_end ?_;refine Cov.prune [(9, _), (42, _), (0, _), (4, _), (5, _), (6, _), (40, _), (41, _), (12, _), (14, _)] ⟨rfl, rfl, rfl, rfl, rfl, rfl, rfl, rfl, rfl, rfl, trivial⟩ ?_;refine Cov.seq ?_;refine Cov.seq ?_;refine Cov.region rfl ?_
        refine Cov.q .ro (.move rfl) rfl ?_
        obtain ⟨u1460, hu1460, r1461⟩ := bind_some r1459; clear r1459
        refine Cov.s2bR .ro rfl Try.underlying9 Try.underlying22 Try.underlying5 hu1460 rfl B1424 (fun a1462 k1463 G1464 e1465 B1466 s1467 => ?_)
        refine Cov.q .ro (.len_sl rfl rfl sl22) rfl ?_;refine Cov.q .ro (.move rfl) rfl ?_;refine Cov.region_end ?_;refine Cov.cutB (β := List Int × Option Addr × Nat × List Value × Int × Int × Int × Int × Int × Int) (fun y => [(14, .slice y.2.1 y.1.length y.2.2.1)]) [(9, _), (42, _), (0, _), (4, _), (5, _), (6, _), (40, _), (41, _)] (fun y => G1464 :: Fs) (fun y => [(b3, .cells #[.int .i64 y.2.2.2.2.1, .int .i64 y.2.2.2.2.2.1, .int .i64 y.2.2.2.2.2.2.1, .slice none 0 0] 57 (0, 0)), (b2, .cells #[.int .i64 y.2.2.2.2.2.2.2.1, .slice a2_1 x2_1.length k2_1, .int .i64 y.2.2.2.2.2.2.2.2.1, .slice a2_3 x2_3.length k2_3] 31 (0, 0)), (b1, .cells #[.int .i64 y.2.2.2.2.2.2.2.2.2] 54 (0, 0))]) [] (fun y => [.s (.slice y.2.1 y.1.length y.2.2.1) 3 1 y.1.length y.2.2.2.1]) [_] (fun y => OL (Rep.int .i64) G1464 y.2.2.2.1 y.1 ∧ (lookup_Table_J2 (lookup_Table_L4 (lookup_Table_J1 x0) xs1446) v1426) y.1 y.2.2.2.2.1 y.2.2.2.2.2.1 y.2.2.2.2.2.2.1 y.2.2.2.2.2.2.2.1 y.2.2.2.2.2.2.2.2.1 y.2.2.2.2.2.2.2.2.2 = some r) ⟨rfl, rfl, rfl, rfl, rfl, rfl, rfl, rfl, trivial⟩ [] rfl [0] rfl ?_ ?_
        ·intro y hI
         obtain ⟨v1567, a1568, k1569, cs1570, v1573, v1574, v1575, v1576, v1577, v1578⟩ := y
         obtain ⟨o1571, r1580⟩ := hI
         try dsimp only at o1571 r1580
         refine Cov.prune [(14, .slice a1568 v1567.length k1569), (9, _), (42, _), (0, _), (4, _), (5, _), (6, _), (40, _), (41, _)] ⟨rfl, rfl, rfl, rfl, rfl, rfl, rfl, rfl, rfl, trivial⟩ ?_;refine Cov.same (bl' := [(b3, .cells #[.int .i64 v1573, .int .i64 v1574, .int .i64 v1575, .slice none 0 0] 57 (0, 0)), (b2, .cells #[.int .i64 v1576, .slice a2_1 x2_1.length k2_1, .int .i64 v1577, .slice a2_3 x2_3.length k2_3] 31 (0, 0)), (b1, .cells #[.int .i64 v1578] 54 (0, 0))]) (sl' := [.s (.slice a1568 v1567.length k1569) 3 1 v1567.length cs1570, _]) (Fs' := G1464 :: Fs) rfl rfl rfl ?_
         unfold lookup_Table_J2 at r1580
         try dsimp only at r1580
         refine Cov.region rfl ?_;refine Cov.q .ro (.move rfl) rfl ?_;refine Cov.q .ro (.move rfl) rfl ?_
         refine Cov.freezeR 0 rfl rfl o1571 [_] rfl B1466 (fun G1587 e1588 B1589 s1590 => ?_)
         refine Cov.lit [_] [(0, _)] .ro sl55 ty39 rfl rfl rfl rfl rfl rfl (fun b1592 hb1592 => ?_)
         have o1593 : OL (Rep.sl (Rep.int .i64)) G1587 [.slice a1568 v1567.length k1569] ([v1567] : List (List Int)) := ((OL.cons rfl (Rep.slI s1590) (OL.nil (Rp' := (Rep.sl (Rep.int .i64))))) :)
         refine Cov.reval 72 (n' := ([v1567] : List (List Int)).length) rfl rfl ?_
         obtain ⟨u1599, hu1599, r1600⟩ := bind_some r1580; clear r1580
         refine Cov.appO (Q := (Rep.sl (Rep.int .i64))) 0 .ro sl55 ty39 rfl rfl rfl rfl rfl rfl (OL.mono (HpLe.trans e1465 e1588) o1430) o1593 rfl rfl rfl B1589 hu1599 rfl (fun a1595 k1596 cs1597 o1598 => ?_)
         refine Cov.q .ro (.assign rfl) rfl ?_;refine Cov.region_end ?_;refine Cov.inBlock ?_;refine Cov.region rfl ?_;refine Cov.q .ro (.addw rfl rfl) rfl ?_;refine Cov.q .ro (.move rfl) rfl ?_;refine Cov.region_end ?_
         refine Cov.prune _ ?_ (Cov.same rfl rfl rfl (hb1439 ((i1419 + 1), xs1446, G1587, u1599, a1595, k1596, cs1597, v1573, v1574, v1575, v1576, v1577, v1578) ⟨(HpLe.trans (HpLe.trans e1423 e1465) e1588), B1589, o1598, (drop_succ g1421), r1600⟩ (Nat.lt_succ_self _)))
         exact ⟨rfl, (congrArg (fun z => some (Value.int .i64 z)) (idx_wrap (SlR.len s2_3) g1421)), rfl, rfl, rfl, rfl, rfl, rfl, trivial⟩
        ·intro hb1602
         refine Cov.block ?_;refine Cov.own_nil 3 1 ?_
         refine Cov.loop2 (α := Nat × List Int × List Int × Option Addr × Nat × List Value) (fun y => [(14, .slice y.2.2.2.1 y.2.2.1.length y.2.2.2.2.1), (60, .int .i64 (y.1 : Int))]) [(9, _), (42, _), (0, _), (4, _), (5, _), (6, _), (40, _), (41, _), (58, _), (59, _)] (fun y => []) (fun y => []) [_, _, _] (fun y => [.s (.slice y.2.2.2.1 y.2.2.1.length y.2.2.2.2.1) 3 1 y.2.2.1.length y.2.2.2.2.2]) [_] (fun y => OL (Rep.int .i64) G1464 y.2.2.2.2.2 y.2.2.1 ∧ List.drop y.1 u1460 = y.2.1 ∧ lookup_Table_L3 (lookup_Table_J2 (lookup_Table_L4 (lookup_Table_J1 x0) xs1446) v1426) v1432 v1433 v1434 v1435 v1436 v1437 y.2.1 y.2.2.1 = some r) (fun y => y.2.1.length) (0, u1460, ([] : List Int), none, 0, []) ⟨(OL.nil (Rp' := (Rep.int .i64))), rfl, r1461⟩ ⟨rfl, rfl, rfl, rfl, rfl, rfl, rfl, rfl, rfl, rfl, rfl, rfl, trivial⟩ rfl rfl rfl (fun y hI hb1671 => ?_)
         obtain ⟨i1661, w1662, v1664, a1665, k1666, cs1667⟩ := y
         obtain ⟨o1668, g1663, r1670⟩ := hI
         try dsimp only at o1668 g1663 r1670
         refine Cov.prune [(14, .slice a1665 v1664.length k1666), (60, .int .i64 (i1661 : Int)), (9, _), (42, _), (0, _), (4, _), (5, _), (6, _), (40, _), (41, _), (58, _), (59, _)] ⟨rfl, rfl, rfl, rfl, rfl, rfl, rfl, rfl, rfl, rfl, rfl, rfl, trivial⟩ ?_;refine Cov.same (bl' := [_, _, _]) (sl' := [.s (.slice a1665 v1664.length k1666) 3 1 v1664.length cs1667, _]) (Fs' := G1464 :: Fs) rfl rfl rfl ?_
         cases w1662 with
         | nil =>
          rw [lookup_Table_L3] at r1670; try dsimp only at r1670
          refine Cov.seq ?_;refine Cov.region rfl ?_;refine Cov.q .ro (.lss rfl rfl) rfl ?_;refine Cov.region_end ?_;refine Cov.seq ?_
          refine Cov.cond_dec rfl (fun c => absurd c (drop_nil g1663)) (fun _ => ?_)
          refine Cov.exit rfl ?_
          refine Cov.prune _ ?_ (Cov.same rfl rfl rfl (hb1602 (v1664, a1665, k1666, cs1667, v1432, v1433, v1434, v1435, v1436, v1437) ⟨o1668, r1670⟩))
          exact ⟨rfl, rfl, rfl, rfl, rfl, rfl, rfl, rfl, rfl, trivial⟩
         | cons x1687 xs1688 =>
          have r1686 : lookup_Table_B3 (lookup_Table_J2 (lookup_Table_L4 (lookup_Table_J1 x0) xs1446) v1426) v1432 v1433 v1434 v1435 v1436 v1437 (lookup_Table_L3 (lookup_Table_J2 (lookup_Table_L4 (lookup_Table_J1 x0) xs1446) v1426) v1432 v1433 v1434 v1435 v1436 v1437 xs1688) x1687 v1664 = some r := r1670; clear r1670; unfold lookup_Table_B3 at r1686; try dsimp only at r1686
          refine Cov.seq ?_;refine Cov.region rfl ?_;refine Cov.q .ro (.lss rfl rfl) rfl ?_;refine Cov.region_end ?_;refine Cov.seq ?_
          refine Cov.cond_dec rfl (fun _ => ?_) (fun c => absurd (drop_lt g1663) c)
          refine Cov.skip ?_;refine Cov.seq ?_;refine Cov.block ?_;refine Cov.seq ?_;refine Cov.region rfl ?_
          obtain ⟨c1689, p1690, h1691⟩ := SlR.get s1467 (drop_idx g1663)
          obtain rfl := h1691
          refine Cov.q .ro (.idxR s1467 rfl rfl (drop_idx g1663) sl22 ty5.sz) rfl ?_;refine Cov.q .ro (.load_rp p1690 List.mem_cons_self rfl ty5 rfl) rfl ?_;refine Cov.q .ro (.assign rfl) rfl ?_;refine Cov.region_end ?_;refine Cov.region rfl ?_;refine Cov.q .ro (.move rfl) rfl ?_;refine Cov.q .ro (.move rfl) rfl ?_;refine Cov.q .ro (.convw Try.underlying5 Try.underlying3 rfl) rfl ?_
          refine Cov.lit [_] [(0, _)] .ro sl39 ty3 rfl rfl rfl rfl rfl rfl (fun b1692 hb1692 => ?_)
          have o1693 : OL (Rep.int .i64) G1464 [.int .i64 (w64 x1687)] ([(w64 x1687)] : List Int) := ((OL.cons rfl (Rep.intI .i64 (w64 x1687)) (OL.nil (Rp' := (Rep.int .i64)))) :)
          refine Cov.reval 67 (n' := ([(w64 x1687)] : List Int).length) rfl rfl ?_
          obtain ⟨u1699, hu1699, r1700⟩ := bind_some r1686; clear r1686
          refine Cov.appO (Q := (Rep.int .i64)) 0 .ro sl39 ty3 rfl rfl rfl rfl rfl rfl o1668 o1693 rfl rfl rfl B1466 hu1699 rfl (fun a1695 k1696 cs1697 o1698 => ?_)
          refine Cov.q .ro (.assign rfl) rfl ?_;refine Cov.region_end ?_;refine Cov.inBlock ?_;refine Cov.region rfl ?_;refine Cov.q .ro (.addw rfl rfl) rfl ?_;refine Cov.q .ro (.move rfl) rfl ?_;refine Cov.region_end ?_
          refine Cov.prune _ ?_ (Cov.same rfl rfl rfl (hb1671 ((i1661 + 1), xs1688, u1699, a1695, k1696, cs1697) ⟨o1698, (drop_succ g1663), r1700⟩ (Nat.lt_succ_self _)))
          exact ⟨rfl, (congrArg (fun z => some (Value.int .i64 z)) (idx_wrap (SlR.len s1467) g1663)), rfl, rfl, rfl, rfl, rfl, rfl, rfl, rfl, rfl, rfl, trivial⟩
  ·intro hb16
   refine Cov.split 27 rfl (fun c15 => ?_) (fun c15 => ?_)
   ·refine Cov.g_off rfl rfl rfl ?_
    refine Cov.g_off rfl rfl rfl ?_;refine Cov.g_off rfl rfl rfl ?_;refine Cov.q .ro (.pick_t rfl rfl) rfl ?_
    refine Cov.prune _ ?_ (Cov.same rfl rfl rfl (hb16 () trivial))
    exact ⟨dor_t c15, rfl, rfl, rfl, rfl, trivial⟩
   ·refine Cov.g_on rfl ?_
    refine Cov.q .ro (.fieldAddr 0 rfl fl54_0 ty3.sz rfl) rfl ?_;refine Cov.g_on rfl ?_;refine Cov.q .ro (.load_own 2 rfl rfl ty3 rfl) rfl ?_;refine Cov.g_on rfl ?_;refine Cov.q .ro (.leq rfl rfl) rfl ?_;refine Cov.q .ro (.pick_f rfl rfl) rfl ?_
    refine Cov.prune _ ?_ (Cov.same rfl rfl rfl (hb16 () trivial))
    exact ⟨dor_f c15, rfl, rfl, rfl, rfl, trivial⟩
set_option maxHeartbeats 4000000 in
set_option maxRecDepth 100000 in
theorem ref19_Check_c {Fs : List Hp} {G : Hp} {x0_0 : Int} {a0_1 : Option Addr} {k0_1 : Nat} {x0_1 : List (Int × Int)} {r : Int} (hG : G ∈ Fs) (s0_1 : SlR (Rep.pair (Rep.int .i64) (Rep.int .i64)) G a0_1 k0_1 x0_1) (h : ref19_Check (x0_0, x0_1) = some r) : RetS Try.prog 37 #[.agg #[.int .i64 x0_0, .slice a0_1 x0_1.length k0_1]] Fs [] [] (fun v bo so => v = .int .i64 r ∧ bo = [] ∧ so = []) := by
 unfold ref19_Check at h
 try dsimp only at h
 refine RetS.of (vs := [_]) Try.func37 rfl Try.ntmps37 [(0, _)] ⟨rfl, trivial⟩ rfl hG fun w0 S0 hS0 B0 => ?_
 refine Cov.seq ?_;refine Cov.region rfl ?_
 refine Cov.box [_, _] .ro rfl rfl rfl (fun b1 hb1 => ?_)
 refine Cov.q .ro (.assign rfl) rfl ?_;refine Cov.region_end ?_;refine Cov.seq ?_;refine Cov.seq ?_;refine Cov.region rfl ?_;refine Cov.q .ro (.fieldAddr 0 rfl fl28_0 ty3.sz rfl) rfl ?_;refine Cov.q .ro (.load_own 0 rfl rfl ty3 rfl) rfl ?_;refine Cov.q .ro (.lss rfl rfl) rfl ?_;refine Cov.q .ro (.move rfl) rfl ?_
 refine Cov.cutR 4 (β := Unit) (fun y => [(12, .bool (decide ((x0_0 < 1) ∨ (64 < x0_0))))]) [(1, _)] (fun y => G :: Fs) (fun y => []) [_] (fun y => []) [] (fun y => True) ⟨rfl, trivial⟩ [0] rfl [] rfl ?_ ?_
 ·rintro _ _
  refine Cov.prune [(12, .bool (decide ((x0_0 < 1) ∨ (64 < x0_0)))), (1, _)] ⟨rfl, rfl, trivial⟩ ?_;refine Cov.same (bl' := [_]) (sl' := []) (Fs' := G :: Fs) rfl rfl rfl ?_;refine Cov.q .ro (.move rfl) rfl ?_;refine Cov.cutR 5 (β := Unit) (fun y => [(18, .bool (decide (((x0_0 < 1) ∨ (64 < x0_0)) ∨ ((x0_1.length : Int) < 1))))]) [(1, _)] (fun y => G :: Fs) (fun y => []) [_] (fun y => []) [] (fun y => True) ⟨rfl, trivial⟩ [0] rfl [] rfl ?_ ?_
  ·rintro _ _
   refine Cov.prune [(18, .bool (decide (((x0_0 < 1) ∨ (64 < x0_0)) ∨ ((x0_1.length : Int) < 1)))), (1, _)] ⟨rfl, rfl, trivial⟩ ?_;refine Cov.same (bl' := [_]) (sl' := []) (Fs' := G :: Fs) rfl rfl rfl ?_;refine Cov.q .ro (.move rfl) rfl ?_;refine Cov.cutR 5 (β := Unit) (fun y => [(24, .bool (decide ((((x0_0 < 1) ∨ (64 < x0_0)) ∨ ((x0_1.length : Int) < 1)) ∨ (4 < (x0_1.length : Int)))))]) [(1, _)] (fun y => G :: Fs) (fun y => []) [_] (fun y => []) [] (fun y => True) ⟨rfl, trivial⟩ [0] rfl [] rfl ?_ ?_
   ·rintro _ _
    refine Cov.prune [(24, .bool (decide ((((x0_0 < 1) ∨ (64 < x0_0)) ∨ ((x0_1.length : Int) < 1)) ∨ (4 < (x0_1.length : Int))))), (1, _)] ⟨rfl, rfl, trivial⟩ ?_;refine Cov.same (bl' := [_]) (sl' := []) (Fs' := G :: Fs) rfl rfl rfl ?_;refine Cov.region_end ?_
    refine Cov.cond_dec rfl (fun c14 => ?_) (fun c14 => ?_)
    ·have r15 := ifT h c14; clear h
     refine Cov.seq ?_;refine Cov.region rfl ?_;refine Cov.q .ro (.assign rfl) rfl ?_;refine Cov.region_end ?_
     cases r15
     refine Cov.drop 1 0 [] _ rfl rfl ?_
     refine Cov.retS (c := ⟨37, none⟩) (.inr ⟨_, rfl⟩) [.tmp 2] [_] rfl Try.func37 Try.results37 ⟨RV.tmp rfl, trivial⟩ (fun _ h => List.mem_cons_of_mem _ h) ⟨rfl, rfl, rfl⟩
    ·have r16 := ifF h c14; clear h
     refine Cov.skip ?_;refine Cov.seq ?_;refine Cov.seq ?_;refine Cov.region rfl ?_;refine Cov.q .ro (.fieldAddr 1 rfl fl28_1 ty26.sz rfl) rfl ?_;refine Cov.q .ro (.load_own 0 rfl rfl ty26 rfl) rfl ?_;refine Cov.q .ro (.len_sl rfl rfl sl26) rfl ?_;refine Cov.q .ro (.move rfl) rfl ?_;refine Cov.region_end ?_
     refine Cov.block ?_
     refine Cov.loop2 (α := Nat × (List (Int × Int))) (fun y => [(28, .int .i64 (y.1 : Int))]) [(26, _), (27, _)] (fun y => []) (fun y => []) [_] (fun y => []) [] (fun y => List.drop y.1 x0_1 = y.2 ∧ ref19_Check_L1 y.2  = some r) (fun y => y.2.length) (0, x0_1) ⟨rfl, r16⟩ ⟨rfl, rfl, rfl, trivial⟩ rfl rfl rfl (fun y hI hb49 => ?_)
     obtain ⟨i45, w46⟩ := y
     obtain ⟨g47, r48⟩ := hI
     try dsimp only at g47 r48
     refine Cov.prune [(28, .int .i64 (i45 : Int)), (26, _), (27, _)] ⟨rfl, rfl, rfl, trivial⟩ ?_;refine Cov.same (bl' := [_]) (sl' := []) (Fs' := G :: Fs) rfl rfl rfl ?_
     cases w46 with
     | nil =>
      rw [ref19_Check_L1] at r48; try dsimp only at r48
      refine Cov.seq ?_;refine Cov.region rfl ?_;refine Cov.q .ro (.lss rfl rfl) rfl ?_;refine Cov.region_end ?_;refine Cov.seq ?_
      refine Cov.cond_dec rfl (fun c => absurd c (drop_nil g47)) (fun _ => ?_)
      refine Cov.exit rfl ?_;refine Cov.seq ?_;refine Cov.region rfl ?_;refine Cov.q .ro (.assign rfl) rfl ?_;refine Cov.region_end ?_
      cases r48
      refine Cov.drop 1 0 [] _ rfl rfl ?_
      refine Cov.retS (c := ⟨37, none⟩) (.inr ⟨_, rfl⟩) [.tmp 2] [_] rfl Try.func37 Try.results37 ⟨RV.tmp rfl, trivial⟩ (fun _ h => List.mem_cons_of_mem _ h) ⟨rfl, rfl, rfl⟩
     | cons x54 xs55 =>
      have r53 : ref19_Check_B1 (ref19_Check_L1 xs55) x54  = some r := r48; clear r48; unfold ref19_Check_B1 at r53; try dsimp only at r53
      refine Cov.seq ?_;refine Cov.region rfl ?_;refine Cov.q .ro (.lss rfl rfl) rfl ?_;refine Cov.region_end ?_;refine Cov.seq ?_
      refine Cov.cond_dec rfl (fun _ => ?_) (fun c => absurd (drop_lt g47) c)
      refine Cov.skip ?_;refine Cov.seq ?_;refine Cov.block ?_;refine Cov.seq ?_;refine Cov.region rfl ?_
      obtain ⟨c56, p57, h58⟩ := SlR.get s0_1 (drop_idx g47)
      obtain ⟨_, _, rfl, rfl, rfl⟩ := h58
      refine Cov.q .ro (.idxR s0_1 rfl rfl (drop_idx g47) sl26 ty70.sz) rfl ?_;refine Cov.q .ro (.load_rp_a [_, _] p57 List.mem_cons_self rfl ty70 rfl) rfl ?_
      refine Cov.alloc .ro ty70 rfl (fun b59 hb59 => ?_)
      refine Cov.store 0 [_, _] [_, _] .ro rfl rfl rfl ty70 rfl rfl rfl rfl ?_;refine Cov.region_end ?_;refine Cov.seq ?_;refine Cov.region rfl ?_;refine Cov.q .ro (.fieldAddr 0 rfl fl70_0 ty3.sz rfl) rfl ?_;refine Cov.q .ro (.load_own 0 rfl rfl ty3 rfl) rfl ?_;refine Cov.q .ro (.lss rfl rfl) rfl ?_;refine Cov.q .ro (.move rfl) rfl ?_;refine Cov.cutR 4 (β := Unit) (fun y => [(39, .bool (decide ((x54.1 < 0) ∨ (2147483647 ≤ x54.1))))]) [(28, _), (26, _), (27, _), (4, _)] (fun y => G :: Fs) (fun y => []) [_, _] (fun y => []) [] (fun y => True) ⟨rfl, rfl, rfl, rfl, trivial⟩ [0, 1] rfl [] rfl ?_ ?_
      ·rintro _ _
       refine Cov.prune [(39, .bool (decide ((x54.1 < 0) ∨ (2147483647 ≤ x54.1)))), (28, _), (26, _), (27, _), (4, _)] ⟨rfl, rfl, rfl, rfl, rfl, trivial⟩ ?_;refine Cov.same (bl' := [_, _]) (sl' := []) (Fs' := G :: Fs) rfl rfl rfl ?_;refine Cov.q .ro (.move rfl) rfl ?_;refine Cov.cutR 4 (β := Unit) (fun y => [(44, .bool (decide (((x54.1 < 0) ∨ (2147483647 ≤ x54.1)) ∨ (x54.2 < 0))))]) [(28, _), (26, _), (27, _), (4, _)] (fun y => G :: Fs) (fun y => []) [_, _] (fun y => []) [] (fun y => True) ⟨rfl, rfl, rfl, rfl, trivial⟩ [0, 1] rfl [] rfl ?_ ?_
       ·rintro _ _
        refine Cov.prune [(44, .bool (decide (((x54.1 < 0) ∨ (2147483647 ≤ x54.1)) ∨ (x54.2 < 0)))), (28, _), (26, _), (27, _), (4, _)] ⟨rfl, rfl, rfl, rfl, rfl, trivial⟩ ?_;refine Cov.same (bl' := [_, _]) (sl' := []) (Fs' := G :: Fs) rfl rfl rfl ?_;refine Cov.q .ro (.move rfl) rfl ?_;refine Cov.cutR 4 (β := Unit) (fun y => [(49, .bool (decide ((((x54.1 < 0) ∨ (2147483647 ≤ x54.1)) ∨ (x54.2 < 0)) ∨ (2147483647 ≤ x54.2))))]) [(28, _), (26, _), (27, _)] (fun y => G :: Fs) (fun y => []) [_, _] (fun y => []) [] (fun y => True) ⟨rfl, rfl, rfl, trivial⟩ [0, 1] rfl [] rfl ?_ ?_
        ·rintro _ _
         refine Cov.prune [(49, .bool (decide ((((x54.1 < 0) ∨ (2147483647 ≤ x54.1)) ∨ (x54.2 < 0)) ∨ (2147483647 ≤ x54.2)))), (28, _), (26, _), (27, _)] ⟨rfl, rfl, rfl, rfl, trivial⟩ ?_;refine Cov.same (bl' := [_, _]) (sl' := []) (Fs' := G :: Fs) rfl rfl rfl ?_;refine Cov.region_end ?_
         refine Cov.cond_dec rfl (fun c72 => ?_) (fun c72 => ?_)
         ·have r73 := ifT r53 c72; clear r53
          refine Cov.seq ?_;refine Cov.region rfl ?_;refine Cov.q .ro (.assign rfl) rfl ?_;refine Cov.region_end ?_
          cases r73
          refine Cov.drop 2 0 [] _ rfl rfl ?_
          refine Cov.retS (c := ⟨37, none⟩) (.inr ⟨_, rfl⟩) [.tmp 2] [_] rfl Try.func37 Try.results37 ⟨RV.tmp rfl, trivial⟩ (fun _ h => List.mem_cons_of_mem _ h) ⟨rfl, rfl, rfl⟩
         ·have r74 := ifF r53 c72; clear r53
          refine Cov.skip ?_;refine Cov.inBlock ?_;refine Cov.region rfl ?_;refine Cov.q .ro (.addw rfl rfl) rfl ?_;refine Cov.q .ro (.move rfl) rfl ?_;refine Cov.region_end ?_;refine Cov.drop 1 0 [_] _ rfl rfl ?_
          refine Cov.prune _ ?_ (Cov.same rfl rfl rfl (hb49 ((i45 + 1), xs55) ⟨(drop_succ g47), r74⟩ (Nat.lt_succ_self _)))
          exact ⟨(congrArg (fun z => some (Value.int .i64 z)) (idx_wrap (SlR.len s0_1) g47)), rfl, rfl, trivial⟩
        ·intro hb69
         refine Cov.split 45 rfl (fun c68 => ?_) (fun c68 => ?_)
         ·refine Cov.g_off rfl rfl rfl ?_
          refine Cov.g_off rfl rfl rfl ?_;refine Cov.g_off rfl rfl rfl ?_;refine Cov.q .ro (.pick_t rfl rfl) rfl ?_
          refine Cov.prune _ ?_ (Cov.same rfl rfl rfl (hb69 () trivial))
          exact ⟨dor_t c68, rfl, rfl, rfl, trivial⟩
         ·refine Cov.g_on rfl ?_
          refine Cov.q .ro (.fieldAddr 1 rfl fl70_1 ty3.sz rfl) rfl ?_;refine Cov.g_on rfl ?_;refine Cov.q .ro (.load_own 0 rfl rfl ty3 rfl) rfl ?_;refine Cov.g_on rfl ?_;refine Cov.q .ro (.geq rfl rfl) rfl ?_;refine Cov.q .ro (.pick_f rfl rfl) rfl ?_
          refine Cov.prune _ ?_ (Cov.same rfl rfl rfl (hb69 () trivial))
          exact ⟨dor_f c68, rfl, rfl, rfl, trivial⟩
       ·intro hb65
        refine Cov.split 40 rfl (fun c64 => ?_) (fun c64 => ?_)
        ·refine Cov.g_off rfl rfl rfl ?_
         refine Cov.g_off rfl rfl rfl ?_;refine Cov.g_off rfl rfl rfl ?_;refine Cov.q .ro (.pick_t rfl rfl) rfl ?_
         refine Cov.prune _ ?_ (Cov.same rfl rfl rfl (hb65 () trivial))
         exact ⟨dor_t c64, rfl, rfl, rfl, rfl, trivial⟩
        ·refine Cov.g_on rfl ?_
         refine Cov.q .ro (.fieldAddr 1 rfl fl70_1 ty3.sz rfl) rfl ?_;refine Cov.g_on rfl ?_;refine Cov.q .ro (.load_own 0 rfl rfl ty3 rfl) rfl ?_;refine Cov.g_on rfl ?_;refine Cov.q .ro (.lss rfl rfl) rfl ?_;refine Cov.q .ro (.pick_f rfl rfl) rfl ?_
         refine Cov.prune _ ?_ (Cov.same rfl rfl rfl (hb65 () trivial))
         exact ⟨dor_f c64, rfl, rfl, rfl, rfl, trivial⟩
      ·intro hb61
       refine Cov.split 35 rfl (fun c60 => ?_) (fun c60 => ?_)
       ·refine Cov.g_off rfl rfl rfl ?_
        refine Cov.g_off rfl rfl rfl ?_;refine Cov.g_off rfl rfl rfl ?_;refine Cov.q .ro (.pick_t rfl rfl) rfl ?_
        refine Cov.prune _ ?_ (Cov.same rfl rfl rfl (hb61 () trivial))
        exact ⟨dor_t c60, rfl, rfl, rfl, rfl, trivial⟩
       ·refine Cov.g_on rfl ?_
        refine Cov.q .ro (.fieldAddr 0 rfl fl70_0 ty3.sz rfl) rfl ?_;refine Cov.g_on rfl ?_;refine Cov.q .ro (.load_own 0 rfl rfl ty3 rfl) rfl ?_;refine Cov.g_on rfl ?_;refine Cov.q .ro (.geq rfl rfl) rfl ?_;refine Cov.q .ro (.pick_f rfl rfl) rfl ?_
        refine Cov.prune _ ?_ (Cov.same rfl rfl rfl (hb61 () trivial))
        exact ⟨dor_f c60, rfl, rfl, rfl, rfl, trivial⟩
   ·intro hb11
    refine Cov.split 19 rfl (fun c10 => ?_) (fun c10 => ?_)
    ·refine Cov.g_off rfl rfl rfl ?_
     refine Cov.g_off rfl rfl rfl ?_;refine Cov.g_off rfl rfl rfl ?_;refine Cov.g_off rfl rfl rfl ?_;refine Cov.q .ro (.pick_t rfl rfl) rfl ?_
     refine Cov.prune _ ?_ (Cov.same rfl rfl rfl (hb11 () trivial))
     exact ⟨dor_t c10, rfl, trivial⟩
    ·refine Cov.g_on rfl ?_
     refine Cov.q .ro (.fieldAddr 1 rfl fl28_1 ty26.sz rfl) rfl ?_;refine Cov.g_on rfl ?_;refine Cov.q .ro (.load_own 0 rfl rfl ty26 rfl) rfl ?_;refine Cov.g_on rfl ?_;refine Cov.q .ro (.len_sl rfl rfl sl26) rfl ?_;refine Cov.g_on rfl ?_;refine Cov.q .ro (.gtr rfl rfl) rfl ?_;refine Cov.q .ro (.pick_f rfl rfl) rfl ?_
     refine Cov.prune _ ?_ (Cov.same rfl rfl rfl (hb11 () trivial))
     exact ⟨dor_f c10, rfl, trivial⟩
  ·intro hb7
   refine Cov.split 13 rfl (fun c6 => ?_) (fun c6 => ?_)
   ·refine Cov.g_off rfl rfl rfl ?_
    refine Cov.g_off rfl rfl rfl ?_;refine Cov.g_off rfl rfl rfl ?_;refine Cov.g_off rfl rfl rfl ?_;refine Cov.q .ro (.pick_t rfl rfl) rfl ?_
    refine Cov.prune _ ?_ (Cov.same rfl rfl rfl (hb7 () trivial))
    exact ⟨dor_t c6, rfl, trivial⟩
   ·refine Cov.g_on rfl ?_
    refine Cov.q .ro (.fieldAddr 1 rfl fl28_1 ty26.sz rfl) rfl ?_;refine Cov.g_on rfl ?_;refine Cov.q .ro (.load_own 0 rfl rfl ty26 rfl) rfl ?_;refine Cov.g_on rfl ?_;refine Cov.q .ro (.len_sl rfl rfl sl26) rfl ?_;refine Cov.g_on rfl ?_;refine Cov.q .ro (.lss rfl rfl) rfl ?_;refine Cov.q .ro (.pick_f rfl rfl) rfl ?_
    refine Cov.prune _ ?_ (Cov.same rfl rfl rfl (hb7 () trivial))
    exact ⟨dor_f c6, rfl, trivial⟩
 ·intro hb3
  refine Cov.split 8 rfl (fun c2 => ?_) (fun c2 => ?_)
  ·refine Cov.g_off rfl rfl rfl ?_
   refine Cov.g_off rfl rfl rfl ?_;refine Cov.g_off rfl rfl rfl ?_;refine Cov.q .ro (.pick_t rfl rfl) rfl ?_
   refine Cov.prune _ ?_ (Cov.same rfl rfl rfl (hb3 () trivial))
   exact ⟨dor_t c2, rfl, trivial⟩
  ·refine Cov.g_on rfl ?_
   refine Cov.q .ro (.fieldAddr 0 rfl fl28_0 ty3.sz rfl) rfl ?_;refine Cov.g_on rfl ?_;refine Cov.q .ro (.load_own 0 rfl rfl ty3 rfl) rfl ?_;refine Cov.g_on rfl ?_;refine Cov.q .ro (.gtr rfl rfl) rfl ?_;refine Cov.q .ro (.pick_f rfl rfl) rfl ?_
   refine Cov.prune _ ?_ (Cov.same rfl rfl rfl (hb3 () trivial))
   exact ⟨dor_f c2, rfl, trivial⟩
set_option maxHeartbeats 4000000 in
set_option maxRecDepth 100000 in
theorem ref20_Key_c {Fs : List Hp} {G : Hp} {x0 : ByteArray} {r : Bool} (hG : G ∈ Fs)  (h : ref20_Key x0 = some r) : RetS Try.prog 58 #[.string x0] Fs [] [] (fun v bo so => v = .bool r ∧ bo = [] ∧ so = []) := by
 unfold ref20_Key at h
 try dsimp only at h
 refine RetS.of (vs := [_]) Try.func58 rfl Try.ntmps58 [(0, _)] ⟨rfl, trivial⟩ rfl hG fun w0 S0 hS0 B0 => ?_
 refine Cov.seq ?_;refine Cov.region rfl ?_;refine Cov.q .ro (.assign rfl) rfl ?_;refine Cov.region_end ?_;refine Cov.seq ?_;refine Cov.region rfl ?_;refine Cov.q .ro (.move rfl) rfl ?_;refine Cov.q .ro (.len_s rfl Try.underlying9) rfl ?_;refine Cov.q .ro (.geq rfl rfl) rfl ?_
 refine Cov.q .ro (.move rfl) rfl ?_;refine Cov.cutR 4 (β := Unit) (fun y => [(10, .bool (decide ((1 ≤ (x0.size : Int)) ∧ ((x0.size : Int) ≤ 32))))]) [(2, _)] (fun y => G :: Fs) (fun y => []) [] (fun y => []) [] (fun y => True) ⟨rfl, trivial⟩ [] rfl [] rfl ?_ ?_
 ·rintro _ _
  refine Cov.prune [(10, .bool (decide ((1 ≤ (x0.size : Int)) ∧ ((x0.size : Int) ≤ 32)))), (2, _)] ⟨rfl, rfl, trivial⟩ ?_;refine Cov.same (bl' := []) (sl' := []) (Fs' := G :: Fs) rfl rfl rfl ?_;refine Cov.q .ro (.assign rfl) rfl ?_;refine Cov.region_end ?_
  cases h
  refine Cov.retS (c := ⟨58, none⟩) (.inr ⟨_, rfl⟩) [.tmp 2] [_] rfl Try.func58 Try.results58 ⟨RV.tmp rfl, trivial⟩ (fun _ h => List.mem_cons_of_mem _ h) ⟨rfl, rfl, rfl⟩
 ·intro hb2
  refine Cov.split 6 rfl (fun c1 => ?_) (fun c1 => ?_)
  ·refine Cov.g_on rfl ?_
   refine Cov.q .ro (.move rfl) rfl ?_;refine Cov.g_on rfl ?_;refine Cov.q .ro (.len_s rfl Try.underlying9) rfl ?_;refine Cov.g_on rfl ?_;refine Cov.q .ro (.leq rfl rfl) rfl ?_;refine Cov.q .ro (.pick_t rfl rfl) rfl ?_
   refine Cov.prune _ ?_ (Cov.same rfl rfl rfl (hb2 () trivial))
   exact ⟨dand_t c1, rfl, trivial⟩
  ·refine Cov.g_off rfl rfl rfl ?_
   refine Cov.g_off rfl rfl rfl ?_;refine Cov.g_off rfl rfl rfl ?_;refine Cov.q .ro (.pick_f rfl rfl) rfl ?_
   refine Cov.prune _ ?_ (Cov.same rfl rfl rfl (hb2 () trivial))
   exact ⟨dand_f c1, rfl, trivial⟩
set_option maxHeartbeats 4000000 in
set_option maxRecDepth 100000 in
theorem ref20_valid_c {Fs : List Hp} {G : Hp} {x0_0 : ByteArray} {x0_1 : Int} {r : Bool} (hG : G ∈ Fs)  (h : ref20_valid (x0_0, x0_1) = some r) : RetS Try.prog 38 #[.agg #[.string x0_0, .int .i64 x0_1]] Fs [] [] (fun v bo so => v = .bool r ∧ bo = [] ∧ so = []) := by
 unfold ref20_valid at h
 try dsimp only at h
 refine RetS.of (vs := [_]) Try.func38 rfl Try.ntmps38 [(0, _)] ⟨rfl, trivial⟩ rfl hG fun w0 S0 hS0 B0 => ?_
 refine Cov.seq ?_;refine Cov.region rfl ?_
 refine Cov.box [_, _] .ro rfl rfl rfl (fun b1 hb1 => ?_)
 refine Cov.q .ro (.assign rfl) rfl ?_;refine Cov.region_end ?_;refine Cov.seq ?_;refine Cov.region rfl ?_;refine Cov.q .ro (.fieldAddr 0 rfl fl63_0 ty9.sz rfl) rfl ?_;refine Cov.q .ro (.load_own 0 rfl rfl ty9 rfl) rfl ?_
 obtain ⟨u2, hu2, r3⟩ := bind_some h; clear h
 refine Cov.callS (b1 := []) (b2 := [_]) (s1 := []) [_] [] .ro rfl rfl Try.call58 rfl rfl (ref20_Key_c (G := G) List.mem_cons_self  hu2) rfl (fun v5 bo so h4 => ?_)
 obtain ⟨rfl, rfl, rfl⟩ := h4
 refine Cov.same (bl' := [_]) (sl' := []) rfl rfl rfl ?_;refine Cov.q .ro (.move rfl) rfl ?_;refine Cov.cutR 4 (β := Unit) (fun y => [(10, .bool (decide ((u2 = true) ∧ (0 ≤ x0_1))))]) [(1, _), (2, _)] (fun y => G :: Fs) (fun y => []) [_] (fun y => []) [] (fun y => True) ⟨rfl, rfl, trivial⟩ [0] rfl [] rfl ?_ ?_
 ·rintro _ _
  refine Cov.prune [(10, .bool (decide ((u2 = true) ∧ (0 ≤ x0_1)))), (1, _), (2, _)] ⟨rfl, rfl, rfl, trivial⟩ ?_;refine Cov.same (bl' := [_]) (sl' := []) (Fs' := G :: Fs) rfl rfl rfl ?_;refine Cov.q .ro (.move rfl) rfl ?_;refine Cov.cutR 4 (β := Unit) (fun y => [(15, .bool (decide (((u2 = true) ∧ (0 ≤ x0_1)) ∧ (x0_1 < 2147483647))))]) [(2, _)] (fun y => G :: Fs) (fun y => []) [_] (fun y => []) [] (fun y => True) ⟨rfl, trivial⟩ [0] rfl [] rfl ?_ ?_
  ·rintro _ _
   refine Cov.prune [(15, .bool (decide (((u2 = true) ∧ (0 ≤ x0_1)) ∧ (x0_1 < 2147483647)))), (2, _)] ⟨rfl, rfl, trivial⟩ ?_;refine Cov.same (bl' := [_]) (sl' := []) (Fs' := G :: Fs) rfl rfl rfl ?_;refine Cov.q .ro (.assign rfl) rfl ?_;refine Cov.region_end ?_
   cases r3
   refine Cov.drop 1 0 [] _ rfl rfl ?_
   refine Cov.retS (c := ⟨38, none⟩) (.inr ⟨_, rfl⟩) [.tmp 2] [_] rfl Try.func38 Try.results38 ⟨RV.tmp rfl, trivial⟩ (fun _ h => List.mem_cons_of_mem _ h) ⟨rfl, rfl, rfl⟩
  ·intro hb11
   refine Cov.split 11 rfl (fun c10 => ?_) (fun c10 => ?_)
   ·refine Cov.g_on rfl ?_
    refine Cov.q .ro (.fieldAddr 1 rfl fl63_1 ty3.sz rfl) rfl ?_;refine Cov.g_on rfl ?_;refine Cov.q .ro (.load_own 0 rfl rfl ty3 rfl) rfl ?_;refine Cov.g_on rfl ?_;refine Cov.q .ro (.lss rfl rfl) rfl ?_;refine Cov.q .ro (.pick_t rfl rfl) rfl ?_
    refine Cov.prune _ ?_ (Cov.same rfl rfl rfl (hb11 () trivial))
    exact ⟨dand_t c10, rfl, trivial⟩
   ·refine Cov.g_off rfl rfl rfl ?_
    refine Cov.g_off rfl rfl rfl ?_;refine Cov.g_off rfl rfl rfl ?_;refine Cov.q .ro (.pick_f rfl rfl) rfl ?_
    refine Cov.prune _ ?_ (Cov.same rfl rfl rfl (hb11 () trivial))
    exact ⟨dand_f c10, rfl, trivial⟩
 ·intro hb7
  refine Cov.split_b 6 rfl (fun c6 => ?_) (fun c6 => ?_)
  ·refine Cov.g_on rfl ?_
   refine Cov.q .ro (.fieldAddr 1 rfl fl63_1 ty3.sz rfl) rfl ?_;refine Cov.g_on rfl ?_;refine Cov.q .ro (.load_own 0 rfl rfl ty3 rfl) rfl ?_;refine Cov.g_on rfl ?_;refine Cov.q .ro (.geq rfl rfl) rfl ?_;refine Cov.q .ro (.pick_t rfl rfl) rfl ?_
   refine Cov.prune _ ?_ (Cov.same rfl rfl rfl (hb7 () trivial))
   exact ⟨dand_t c6, rfl, rfl, trivial⟩
  ·refine Cov.g_off rfl rfl rfl ?_
   refine Cov.g_off rfl rfl rfl ?_;refine Cov.g_off rfl rfl rfl ?_;refine Cov.q .ro (.pick_f rfl rfl) rfl ?_
   refine Cov.prune _ ?_ (Cov.same rfl rfl rfl (hb7 () trivial))
   exact ⟨dand_f (bne_of c6), rfl, rfl, trivial⟩
set_option maxHeartbeats 4000000 in
set_option maxRecDepth 100000 in
theorem ref19_Homes_c {Fs : List Hp} {G : Hp} {x0_0 : Int} {a0_1 : Option Addr} {k0_1 : Nat} {x0_1 : List (Int × Int)} {x1 : Int} {r : ((List Int) × Int)} (hG : G ∈ Fs) (s0_1 : SlR (Rep.pair (Rep.int .i64) (Rep.int .i64)) G a0_1 k0_1 x0_1) (h : ref19_Homes (x0_0, x0_1) x1 = some r) : RetS Try.prog 59 #[.agg #[.int .i64 x0_0, .slice a0_1 x0_1.length k0_1], .int .i64 x1] Fs [] [] (fun v bo so => ∃ (oa0 : Option Addr) (ok0 : Nat) (oc0 : List Value), v = .tuple #[.slice oa0 r.1.length ok0, .int .i64 r.2] ∧ bo = [] ∧ so = [.s (.slice oa0 r.1.length ok0) 3 1 r.1.length oc0] ∧ OL (Rep.int .i64) G oc0 r.1) := by
 unfold ref19_Homes at h
 try dsimp only at h
 refine RetS.of (vs := [_, _]) Try.func59 rfl Try.ntmps59 [(0, _), (1, _)] ⟨rfl, rfl, trivial⟩ rfl hG fun w0 S0 hS0 B0 => ?_
 refine Cov.seq ?_;refine Cov.region rfl ?_
 refine Cov.box [_, _] .ro rfl rfl rfl (fun b1 hb1 => ?_)
 refine Cov.q .ro (.assign rfl) rfl ?_;refine Cov.q .ro (.assign rfl) rfl ?_;refine Cov.region_end ?_;refine Cov.seq ?_;refine Cov.seq ?_;refine Cov.region rfl ?_;refine Cov.q .ro (.load_own_a 0 [_, _] rfl rfl ty28 rfl) rfl ?_
 obtain ⟨u2, hu2, r3⟩ := bind_some h; clear h
 refine Cov.callS (b1 := []) (b2 := [_]) (s1 := []) [_] [] .ro rfl rfl Try.call37 rfl rfl (ref19_Check_c (G := G) List.mem_cons_self s0_1 hu2) rfl (fun v5 bo so h4 => ?_)
 obtain ⟨rfl, rfl, rfl⟩ := h4
 refine Cov.same (bl' := [_]) (sl' := []) rfl rfl rfl ?_;refine Cov.q .ro (.assign rfl) rfl ?_;refine Cov.region_end ?_;refine Cov.seq ?_;refine Cov.region rfl ?_;refine Cov.q .ro (.move rfl) rfl ?_;refine Cov.q .ro (.neq rfl rfl) rfl ?_;refine Cov.region_end ?_
 refine Cov.cond_dec rfl (fun c6 => ?_) (fun c6 => ?_)
 ·have r7 := ifT r3 c6; clear r3
  refine Cov.seq ?_;refine Cov.region rfl ?_;refine Cov.q .ro (.move rfl) rfl ?_;refine Cov.q .ro (.assign rfl) rfl ?_;refine Cov.q .ro (.assign rfl) rfl ?_;refine Cov.region_end ?_;refine Cov.own_nil 3 1 ?_
  cases r7
  refine Cov.drop 1 0 [] _ rfl rfl ?_
  refine Cov.retS (c := ⟨59, none⟩) (.inr ⟨_, rfl⟩) [.tmp 4, .tmp 5] [_, _] rfl Try.func59 Try.results59 ⟨RV.tmp rfl, RV.tmp rfl, trivial⟩ (fun _ h => List.mem_cons_of_mem _ h) ⟨none, 0, [], rfl, rfl, rfl, (OL.nil (Rp' := (Rep.int .i64)))⟩
 ·have r9 := ifF r3 c6; clear r3
  refine Cov.skip ?_;refine Cov.seq ?_;refine Cov.seq ?_;refine Cov.region rfl ?_;refine Cov.q .ro (.move rfl) rfl ?_;refine Cov.q .ro (.lss rfl rfl) rfl ?_;refine Cov.q .ro (.move rfl) rfl ?_;refine Cov.cutR 3 (β := Unit) (fun y => [(20, .bool (decide ((x1 < 0) ∨ (2147483647 ≤ x1))))]) [(1, _), (2, _)] (fun y => G :: Fs) (fun y => []) [_] (fun y => []) [] (fun y => True) ⟨rfl, rfl, trivial⟩ [0] rfl [] rfl ?_ ?_
  ·rintro _ _
   refine Cov.prune [(20, .bool (decide ((x1 < 0) ∨ (2147483647 ≤ x1)))), (1, _), (2, _)] ⟨rfl, rfl, rfl, trivial⟩ ?_;refine Cov.same (bl' := [_]) (sl' := []) (Fs' := G :: Fs) rfl rfl rfl ?_;refine Cov.region_end ?_
   refine Cov.cond_dec rfl (fun c14 => ?_) (fun c14 => ?_)
   ·have r15 := ifT r9 c14; clear r9
    refine Cov.seq ?_;refine Cov.region rfl ?_;refine Cov.q .ro (.assign rfl) rfl ?_;refine Cov.q .ro (.assign rfl) rfl ?_;refine Cov.region_end ?_;refine Cov.own_nil 3 1 ?_
    cases r15
    refine Cov.drop 1 0 [] _ rfl rfl ?_
    refine Cov.retS (c := ⟨59, none⟩) (.inr ⟨_, rfl⟩) [.tmp 4, .tmp 5] [_, _] rfl Try.func59 Try.results59 ⟨RV.tmp rfl, RV.tmp rfl, trivial⟩ (fun _ h => List.mem_cons_of_mem _ h) ⟨none, 0, [], rfl, rfl, rfl, (OL.nil (Rp' := (Rep.int .i64)))⟩
   ·have r17 := ifF r9 c14; clear r9
    refine Cov.skip ?_;refine Cov.seq ?_;refine Cov.region rfl ?_;refine Cov.q .ro (.assign rfl) rfl ?_;refine Cov.region_end ?_;refine Cov.seq ?_;refine Cov.seq ?_;refine Cov.region rfl ?_;refine Cov.q .ro (.fieldAddr 1 rfl fl28_1 ty26.sz rfl) rfl ?_
    refine Cov.q .ro (.load_own 0 rfl rfl ty26 rfl) rfl ?_;refine Cov.q .ro (.len_sl rfl rfl sl26) rfl ?_;refine Cov.q .ro (.move rfl) rfl ?_;refine Cov.region_end ?_;refine Cov.block ?_;refine Cov.own_nil 3 1 ?_
    refine Cov.loop2 (α := Nat × (List (Int × Int)) × List Int × Option Addr × Nat × List Value) (fun y => [(7, .slice y.2.2.2.1 y.2.2.1.length y.2.2.2.2.1), (24, .int .i64 (y.1 : Int))]) [(1, _), (2, _), (22, _), (23, _)] (fun y => []) (fun y => []) [_] (fun y => [.s (.slice y.2.2.2.1 y.2.2.1.length y.2.2.2.2.1) 3 1 y.2.2.1.length y.2.2.2.2.2]) [] (fun y => OL (Rep.int .i64) G y.2.2.2.2.2 y.2.2.1 ∧ List.drop y.1 x0_1 = y.2.1 ∧ ref19_Homes_L1 x1 x0_0 y.2.1 y.2.2.1 = some r) (fun y => y.2.1.length) (0, x0_1, ([] : List Int), none, 0, []) ⟨(OL.nil (Rp' := (Rep.int .i64))), rfl, r17⟩ ⟨rfl, rfl, rfl, rfl, rfl, rfl, trivial⟩ rfl rfl rfl (fun y hI hb82 => ?_)
    obtain ⟨i72, w73, v75, a76, k77, cs78⟩ := y
    obtain ⟨o79, g74, r81⟩ := hI
    try dsimp only at o79 g74 r81
    refine Cov.prune [(7, .slice a76 v75.length k77), (24, .int .i64 (i72 : Int)), (1, _), (2, _), (22, _), (23, _)] ⟨rfl, rfl, rfl, rfl, rfl, rfl, trivial⟩ ?_;refine Cov.same (bl' := [_]) (sl' := [.s (.slice a76 v75.length k77) 3 1 v75.length cs78]) (Fs' := G :: Fs) rfl rfl rfl ?_
    cases w73 with
    | nil =>
     rw [ref19_Homes_L1] at r81; try dsimp only at r81
     refine Cov.seq ?_;refine Cov.region rfl ?_;refine Cov.q .ro (.lss rfl rfl) rfl ?_;refine Cov.region_end ?_;refine Cov.seq ?_
     refine Cov.cond_dec rfl (fun c => absurd c (drop_nil g74)) (fun _ => ?_)
     refine Cov.exit rfl ?_;refine Cov.seq ?_;refine Cov.region rfl ?_;refine Cov.q .ro (.move rfl) rfl ?_;refine Cov.q .ro (.assign rfl) rfl ?_;refine Cov.q .ro (.assign rfl) rfl ?_;refine Cov.region_end ?_
     cases r81
     refine Cov.drop 1 0 [] _ rfl rfl ?_
     refine Cov.retS (c := ⟨59, none⟩) (.inr ⟨_, rfl⟩) [.tmp 4, .tmp 5] [_, _] rfl Try.func59 Try.results59 ⟨RV.tmp rfl, RV.tmp rfl, trivial⟩ (fun _ h => List.mem_cons_of_mem _ h) ⟨a76, k77, cs78, rfl, rfl, rfl, o79⟩
    | cons x88 xs89 =>
     have r87 : ref19_Homes_B1 x1 x0_0 (ref19_Homes_L1 x1 x0_0 xs89) x88 v75 = some r := r81; clear r81; unfold ref19_Homes_B1 at r87; try dsimp only at r87
     refine Cov.seq ?_;refine Cov.region rfl ?_;refine Cov.q .ro (.lss rfl rfl) rfl ?_;refine Cov.region_end ?_;refine Cov.seq ?_
     refine Cov.cond_dec rfl (fun _ => ?_) (fun c => absurd (drop_lt g74) c)
     refine Cov.skip ?_;refine Cov.seq ?_;refine Cov.block ?_;refine Cov.seq ?_;refine Cov.region rfl ?_
     obtain ⟨c90, p91, h92⟩ := SlR.get s0_1 (drop_idx g74)
     obtain ⟨_, _, rfl, rfl, rfl⟩ := h92
     refine Cov.q .ro (.idxR s0_1 rfl rfl (drop_idx g74) sl26 ty70.sz) rfl ?_;refine Cov.q .ro (.load_rp_a [_, _] p91 List.mem_cons_self rfl ty70 rfl) rfl ?_
     refine Cov.alloc .ro ty70 rfl (fun b93 hb93 => ?_)
     refine Cov.store 0 [_, _] [_, _] .ro rfl rfl rfl ty70 rfl rfl rfl rfl ?_;refine Cov.region_end ?_;refine Cov.region rfl ?_;refine Cov.q .ro (.move rfl) rfl ?_;refine Cov.q .ro (.fieldAddr 0 rfl fl70_0 ty3.sz rfl) rfl ?_;refine Cov.q .ro (.load_own 0 rfl rfl ty3 rfl) rfl ?_;refine Cov.q .ro (.move rfl) rfl ?_;refine Cov.q .ro (.mulw rfl rfl) rfl ?_;refine Cov.q .ro (.fieldAddr 1 rfl fl70_1 ty3.sz rfl) rfl ?_
     refine Cov.q .ro (.load_own 0 rfl rfl ty3 rfl) rfl ?_;refine Cov.q .ro (.addw rfl rfl) rfl ?_;refine Cov.q .ro (.remt rfl rfl (by decide)) rfl ?_;refine Cov.q .ro (.fieldAddr 0 rfl fl28_0 ty3.sz rfl) rfl ?_;refine Cov.q .ro (.load_own 1 rfl rfl ty3 rfl) rfl ?_
     obtain ⟨u94, hu94, r95⟩ := bind_some r87; clear r87
     refine Cov.q .ro (.remt rfl rfl (nz_some hu94)) rfl ?_
     refine Cov.lit [_] [(0, _)] .ro sl39 ty3 rfl rfl rfl rfl rfl rfl (fun b96 hb96 => ?_)
     have o97 : OL (Rep.int .i64) G [.int .i64 (Int.tmod (Int.tmod (w64 ((w64 (x88.1 * x1)) + x88.2)) 2147483647) x0_0)] ([(Int.tmod (Int.tmod (w64 ((w64 (x88.1 * x1)) + x88.2)) 2147483647) x0_0)] : List Int) := ((OL.cons rfl (Rep.intI .i64 (Int.tmod (Int.tmod (w64 ((w64 (x88.1 * x1)) + x88.2)) 2147483647) x0_0)) (OL.nil (Rp' := (Rep.int .i64)))) :)
     refine Cov.reval 40 (n' := ([(Int.tmod (Int.tmod (w64 ((w64 (x88.1 * x1)) + x88.2)) 2147483647) x0_0)] : List Int).length) rfl rfl ?_
     obtain ⟨u103, hu103, r104⟩ := bind_some r95; clear r95
     refine Cov.appO (Q := (Rep.int .i64)) 0 .ro sl39 ty3 rfl rfl rfl rfl rfl rfl o79 o97 rfl rfl rfl B0 hu103 rfl (fun a99 k100 cs101 o102 => ?_)
     refine Cov.q .ro (.assign rfl) rfl ?_;refine Cov.region_end ?_;refine Cov.prune [(7, _), (24, _), (1, _), (2, _), (22, _), (23, _)] ⟨rfl, rfl, rfl, rfl, rfl, rfl, trivial⟩ ?_;refine Cov.inBlock ?_;refine Cov.region rfl ?_;refine Cov.q .ro (.addw rfl rfl) rfl ?_;refine Cov.q .ro (.move rfl) rfl ?_;refine Cov.region_end ?_;refine Cov.drop 1 0 [_] _ rfl rfl ?_
     refine Cov.prune _ ?_ (Cov.same rfl rfl rfl (hb82 ((i72 + 1), xs89, u103, a99, k100, cs101) ⟨o102, (drop_succ g74), r104⟩ (Nat.lt_succ_self _)))
     exact ⟨rfl, (congrArg (fun z => some (Value.int .i64 z)) (idx_wrap (SlR.len s0_1) g74)), rfl, rfl, rfl, rfl, trivial⟩
  ·intro hb11
   refine Cov.split 17 rfl (fun c10 => ?_) (fun c10 => ?_)
   ·refine Cov.g_off rfl rfl rfl ?_
    refine Cov.g_off rfl rfl rfl ?_;refine Cov.q .ro (.pick_t rfl rfl) rfl ?_
    refine Cov.prune _ ?_ (Cov.same rfl rfl rfl (hb11 () trivial))
    exact ⟨dor_t c10, rfl, rfl, trivial⟩
   ·refine Cov.g_on rfl ?_
    refine Cov.q .ro (.move rfl) rfl ?_;refine Cov.g_on rfl ?_;refine Cov.q .ro (.geq rfl rfl) rfl ?_;refine Cov.q .ro (.pick_f rfl rfl) rfl ?_
    refine Cov.prune _ ?_ (Cov.same rfl rfl rfl (hb11 () trivial))
    exact ⟨dor_f c10, rfl, rfl, trivial⟩
set_option maxHeartbeats 4000000 in
set_option maxRecDepth 100000 in
theorem ref11_Sum_c {Fs : List Hp} {G : Hp} {x0 : ByteArray} {r : Int} (hG : G ∈ Fs)  (h : ref11_Sum x0 = some r) : RetS Try.prog 60 #[.string x0] Fs [] [] (fun v bo so => v = .int .i64 r ∧ bo = [] ∧ so = []) := by
 unfold ref11_Sum at h
 try dsimp only at h
 refine RetS.of (vs := [_]) Try.func60 rfl Try.ntmps60 [(0, _)] ⟨rfl, trivial⟩ rfl hG fun w0 S0 hS0 B0 => ?_
 refine Cov.seq ?_;refine Cov.region rfl ?_;refine Cov.q .ro (.assign rfl) rfl ?_;refine Cov.region_end ?_;refine Cov.seq ?_;refine Cov.region rfl ?_;refine Cov.q .ro (.assign rfl) rfl ?_;refine Cov.region_end ?_;refine Cov.seq ?_
 refine Cov.seq ?_;refine Cov.region rfl ?_;refine Cov.q .ro (.assign rfl) rfl ?_;refine Cov.region_end ?_;refine Cov.block ?_
 refine Cov.loop2 (α := Nat × Int × Int) (fun y => [(3, .int .i64 y.2.1), (4, .int .i64 y.2.2)]) [(0, _)] (fun y => []) (fun y => []) [] (fun y => []) [] (fun y => ref11_Sum_L1 x0 y.1 y.2.1 y.2.2 = some r) (fun y => y.1) (big, 1, 0) h ⟨rfl, rfl, rfl, trivial⟩ rfl rfl rfl (fun y hI hb14 => ?_)
 obtain ⟨n9, v11, v12⟩ := y
 have r13 := hI; clear hI
 try dsimp only at r13
 refine Cov.prune [(3, .int .i64 v11), (4, .int .i64 v12), (0, _)] ⟨rfl, rfl, rfl, trivial⟩ ?_;refine Cov.same (bl' := []) (sl' := []) (Fs' := G :: Fs) rfl rfl rfl ?_
 obtain ⟨m17, rfl⟩ : ∃ m, n9 = m + 1 := by cases n9 with | zero => exact absurd (show (none : Option _) = some _ from r13) (by simp) | succ m => exact ⟨m, rfl⟩
 have r16 : ref11_Sum_B1 x0 (ref11_Sum_L1 x0 m17) v11 v12 = some r := r13; clear r13; unfold ref11_Sum_B1 at r16; try dsimp only at r16
 refine Cov.seq ?_;refine Cov.seq ?_;refine Cov.region rfl ?_;refine Cov.q .ro (.move rfl) rfl ?_;refine Cov.q .ro (.move rfl) rfl ?_;refine Cov.q .ro (.len_s rfl Try.underlying9) rfl ?_;refine Cov.q .ro (.lss rfl rfl) rfl ?_;refine Cov.region_end ?_
 refine Cov.cond_dec rfl (fun c18 => ?_) (fun c18 => ?_)
 ·have r19 := ifT r16 c18; clear r16
  refine Cov.skip ?_;refine Cov.seq ?_;refine Cov.block ?_;refine Cov.region rfl ?_;refine Cov.q .ro (.move rfl) rfl ?_;refine Cov.q .ro (.mulw rfl rfl) rfl ?_;refine Cov.q .ro (.move rfl) rfl ?_;refine Cov.q .ro (.move rfl) rfl ?_
  obtain ⟨u20, hu20, r21⟩ := bind_some r19; clear r19
  refine Cov.q .ro (.sidx rfl rfl Try.underlying9 hu20) rfl ?_;refine Cov.q .ro (.convw Try.underlying5 Try.underlying3 rfl) rfl ?_;refine Cov.q .ro (.addw rfl rfl) rfl ?_;refine Cov.q .ro (.addw rfl rfl) rfl ?_;refine Cov.q .ro (.remt rfl rfl (by decide)) rfl ?_;refine Cov.q .ro (.assign rfl) rfl ?_;refine Cov.region_end ?_;refine Cov.prune [(3, _), (4, _), (0, _)] ⟨rfl, rfl, rfl, trivial⟩ ?_;refine Cov.inBlock ?_
  refine Cov.region rfl ?_;refine Cov.q .ro (.move rfl) rfl ?_;refine Cov.q .ro (.addw rfl rfl) rfl ?_;refine Cov.q .ro (.assign rfl) rfl ?_;refine Cov.region_end ?_
  refine Cov.prune _ ?_ (Cov.same rfl rfl rfl (hb14 (m17, (Int.tmod (w64 ((w64 ((w64 (v11 * 1000003)) + (w64 u20))) + 1)) 2147483647), (w64 (v12 + 1))) r21 (Nat.lt_succ_self _)))
  exact ⟨rfl, rfl, rfl, trivial⟩
 ·have r22 := ifF r16 c18; clear r16
  refine Cov.exit rfl ?_;refine Cov.seq ?_;refine Cov.region rfl ?_;refine Cov.q .ro (.move rfl) rfl ?_;refine Cov.q .ro (.assign rfl) rfl ?_;refine Cov.region_end ?_
  cases r22
  refine Cov.retS (c := ⟨60, none⟩) (.inr ⟨_, rfl⟩) [.tmp 2] [_] rfl Try.func60 Try.results60 ⟨RV.tmp rfl, trivial⟩ (fun _ h => List.mem_cons_of_mem _ h) ⟨rfl, rfl, rfl⟩
set_option maxHeartbeats 4000000 in
set_option maxRecDepth 100000 in
theorem ref20_Homes_c {Fs : List Hp} {G : Hp} {x0_0 : Int} {a0_1 : Option Addr} {k0_1 : Nat} {x0_1 : List (Int × Int)} {x1 : ByteArray} {r : ((List Int) × Int)} (hG : G ∈ Fs) (s0_1 : SlR (Rep.pair (Rep.int .i64) (Rep.int .i64)) G a0_1 k0_1 x0_1) (h : ref20_Homes (x0_0, x0_1) x1 = some r) : RetS Try.prog 39 #[.agg #[.int .i64 x0_0, .slice a0_1 x0_1.length k0_1], .string x1] Fs [] [] (fun v bo so => ∃ (oa0 : Option Addr) (ok0 : Nat) (oc0 : List Value), v = .tuple #[.slice oa0 r.1.length ok0, .int .i64 r.2] ∧ bo = [] ∧ so = [.s (.slice oa0 r.1.length ok0) 3 1 r.1.length oc0] ∧ OL (Rep.int .i64) G oc0 r.1) := by
 unfold ref20_Homes at h
 try dsimp only at h
 refine RetS.of (vs := [_, _]) Try.func39 rfl Try.ntmps39 [(0, _), (1, _)] ⟨rfl, rfl, trivial⟩ rfl hG fun w0 S0 hS0 B0 => ?_
 refine Cov.seq ?_;refine Cov.region rfl ?_
 refine Cov.box [_, _] .ro rfl rfl rfl (fun b1 hb1 => ?_)
 refine Cov.q .ro (.assign rfl) rfl ?_;refine Cov.q .ro (.assign rfl) rfl ?_;refine Cov.region_end ?_;refine Cov.seq ?_;refine Cov.seq ?_;refine Cov.region rfl ?_;refine Cov.q .ro (.load_own_a 0 [_, _] rfl rfl ty28 rfl) rfl ?_
 obtain ⟨u2, hu2, r3⟩ := bind_some h; clear h
 refine Cov.callS (b1 := []) (b2 := [_]) (s1 := []) [_] [] .ro rfl rfl Try.call37 rfl rfl (ref19_Check_c (G := G) List.mem_cons_self s0_1 hu2) rfl (fun v5 bo so h4 => ?_)
 obtain ⟨rfl, rfl, rfl⟩ := h4
 refine Cov.same (bl' := [_]) (sl' := []) rfl rfl rfl ?_;refine Cov.q .ro (.neq rfl rfl) rfl ?_;refine Cov.region_end ?_
 refine Cov.cond_dec rfl (fun c6 => ?_) (fun c6 => ?_)
 ·have r7 := ifT r3 c6; clear r3
  refine Cov.seq ?_;refine Cov.region rfl ?_;refine Cov.q .ro (.assign rfl) rfl ?_;refine Cov.q .ro (.assign rfl) rfl ?_;refine Cov.region_end ?_;refine Cov.own_nil 3 1 ?_
  cases r7
  refine Cov.drop 1 0 [] _ rfl rfl ?_
  refine Cov.retS (c := ⟨39, none⟩) (.inr ⟨_, rfl⟩) [.tmp 4, .tmp 5] [_, _] rfl Try.func39 Try.results39 ⟨RV.tmp rfl, RV.tmp rfl, trivial⟩ (fun _ h => List.mem_cons_of_mem _ h) ⟨none, 0, [], rfl, rfl, rfl, (OL.nil (Rp' := (Rep.int .i64)))⟩
 ·have r9 := ifF r3 c6; clear r3
  refine Cov.skip ?_;refine Cov.seq ?_;refine Cov.seq ?_;refine Cov.region rfl ?_;refine Cov.q .ro (.move rfl) rfl ?_
  obtain ⟨u10, hu10, r11⟩ := bind_some r9; clear r9
  refine Cov.callS (b1 := []) (b2 := [_]) (s1 := []) [_] [] .ro rfl rfl Try.call58 rfl rfl (ref20_Key_c (G := G) List.mem_cons_self  hu10) rfl (fun v13 bo so h12 => ?_)
  obtain ⟨rfl, rfl, rfl⟩ := h12
  refine Cov.same (bl' := [_]) (sl' := []) rfl rfl rfl ?_;refine Cov.q .ro (.not rfl) rfl ?_;refine Cov.region_end ?_
  refine Cov.cond rfl (fun c14 => ?_) (fun c14 => ?_)
  ·have r15 := ifT r11 c14; clear r11
   refine Cov.seq ?_;refine Cov.region rfl ?_;refine Cov.q .ro (.assign rfl) rfl ?_;refine Cov.q .ro (.assign rfl) rfl ?_;refine Cov.region_end ?_;refine Cov.own_nil 3 1 ?_
   cases r15
   refine Cov.drop 1 0 [] _ rfl rfl ?_
   refine Cov.retS (c := ⟨39, none⟩) (.inr ⟨_, rfl⟩) [.tmp 4, .tmp 5] [_, _] rfl Try.func39 Try.results39 ⟨RV.tmp rfl, RV.tmp rfl, trivial⟩ (fun _ h => List.mem_cons_of_mem _ h) ⟨none, 0, [], rfl, rfl, rfl, (OL.nil (Rp' := (Rep.int .i64)))⟩
  ·have r17 := ifBF r11 c14; clear r11
   refine Cov.skip ?_;refine Cov.seq ?_;refine Cov.drawL (.q 0 (.q 1 (.e 2 1 (.e 3 1 (.q 4 (.q 5 (.q 6 (.q 7 .nil)))))))) [_] (by kernel_rfl) (by kernel_rfl) (pick_mem [0] rfl) ?_;refine Cov.dq (.load_own_a 0 [_, _] rfl rfl ty28 rfl) rfl ?_;refine Cov.dq (.move rfl) rfl ?_
   obtain ⟨u18, hu18, r19⟩ := bind_some r17; clear r17
   refine Cov.callS (b1 := []) (b2 := [_]) (s1 := []) [_] [] .d1 rfl rfl Try.call60 rfl rfl (ref11_Sum_c (G := G) List.mem_cons_self  hu18) rfl (fun v21 bo so h20 => ?_)
   obtain ⟨rfl, rfl, rfl⟩ := h20
   refine Cov.same (bl' := [_]) (sl' := []) rfl rfl rfl ?_;refine Cov.clsL (HpLe.refl _) (pick_mem [0] rfl) ?_
   obtain ⟨u22, hu22, r23⟩ := bind_some r19; clear r19
   refine Cov.callS (b1 := []) (b2 := [_]) (s1 := []) [_, _] [] .d1 rfl rfl Try.call59 rfl rfl (ref19_Homes_c (G := G) List.mem_cons_self s0_1 hu22) rfl (fun v25 bo so h24 => ?_)
   obtain ⟨a27, k28, cs29, rfl, rfl, rfl, o30⟩ := h24
   refine Cov.same (bl' := [_]) (sl' := [_]) rfl rfl rfl ?_;refine Cov.clsL (HpLe.refl _) (pick_mem [0] rfl) ?_;refine Cov.dq (.extract rfl rfl) rfl ?_;refine Cov.dq (.extract rfl rfl) rfl ?_;refine Cov.dq (.assign rfl) rfl ?_;refine Cov.dq (.assign rfl) rfl ?_;refine Cov.draw_end ?_;refine Cov.prune [(4, _), (5, _)] ⟨rfl, rfl, trivial⟩ ?_
   cases r23
   refine Cov.drop 1 0 [] _ rfl rfl ?_
   refine Cov.retS (c := ⟨39, none⟩) (.inr ⟨_, rfl⟩) [.tmp 4, .tmp 5] [_, _] rfl Try.func39 Try.results39 ⟨RV.tmp rfl, RV.tmp rfl, trivial⟩ (fun _ h => List.mem_cons_of_mem _ h) ⟨a27, k28, cs29, rfl, rfl, rfl, o30⟩
set_option maxHeartbeats 4000000 in
set_option maxRecDepth 100000 in
theorem ref19_place_R_c (n : Nat) : ∀ {Fs : List Hp} {G : Hp} {a0 : Option Addr} {k0 : Nat} {x0 : List (List Int)} {a1 : Option Addr} {k1 : Nat} {x1 : List (List Int)} {cc1 : List Value} {ee1 : List NE} {a2 : Option Addr} {k2 : Nat} {x2 : List Int} {x3 : Int} {x4 : Int} {a5 : Option Addr} {k5 : Nat} {x5 : List Bool} {cc5 : List Value} {bb5 : Option Nat} {pre5 post5 : List Value} {r : (Bool × (List (List Int)) × (List Bool))} (hG : G ∈ Fs) (s0 : SlR (Rep.sl (Rep.int .i64)) G a0 k0 x0) (oo1 : NL (Rep.int .i64) G ee1 cc1 x1) (s2 : SlR (Rep.int .i64) G a2 k2 x2) (vva5 : VA a5 bb5 x5.length k5 pre5 cc5) (oo5 : OL Rep.bool G cc5 x5) (h : ref19_place_R n x0 x1 x2 x3 x4 x5 = some r), RetS Try.prog 75 #[.slice a0 x0.length k0, .slice a1 x1.length k1, .slice a2 x2.length k2, .int .i64 x3, .int .i64 x4, .slice a5 x5.length k5] Fs [] [.s (.slice a1 x1.length k1) 39 1 x1.length cc1, .g (packG 3 1 ee1), .g (viewG bb5 4 pre5 cc5 post5)] (fun v bo so => (r.1 = false ∧ ∃ lc0 : List Value, v = .bool false ∧ bo = [] ∧ so = [.s (.slice a1 x1.length k1) 39 1 x1.length cc1, .g (packG 3 1 ee1), .g (viewG bb5 4 pre5 lc0 post5)] ∧ OL Rep.bool G lc0 r.2.2 ∧ r.2.2.length = x5.length) ∨ (r.1 = true ∧ ∃ le0 : List NE, ∃ lc0 : List Value, ∃ lc1 : List Value, v = .bool true ∧ bo = [] ∧ so = [.s (.slice a1 r.2.1.length k1) 39 1 r.2.1.length lc0, .g (packG 3 1 le0), .g (viewG bb5 4 pre5 lc1 post5)] ∧ NL (Rep.int .i64) G le0 lc0 r.2.1 ∧ r.2.1.length = x1.length ∧ OL Rep.bool G lc1 r.2.2 ∧ r.2.2.length = x5.length)) := by
 induction n with
 | zero => intro Fs G a0 k0 x0 a1 k1 x1 cc1 ee1 a2 k2 x2 x3 x4 a5 k5 x5 cc5 bb5 pre5 post5 r hG s0 oo1 s2 vva5 oo5 h; exact absurd h (by unfold ref19_place_R; simp)
 | succ n ih =>
  intro Fs G a0 k0 x0 a1 k1 x1 cc1 ee1 a2 k2 x2 x3 x4 a5 k5 x5 cc5 bb5 pre5 post5 r hG s0 oo1 s2 vva5 oo5 h
  unfold ref19_place_R at h
  unfold ref19_place_B3 at h
  try dsimp only at h
  refine RetS.of (vs := [_, _, _, _, _, _]) Try.func75 rfl Try.ntmps75 [(0, _), (1, _), (2, _), (3, _), (4, _), (5, _)] ⟨rfl, rfl, rfl, rfl, rfl, rfl, trivial⟩ rfl hG fun w0 S0 hS0 B0 => ?_
  refine Cov.seq ?_;refine Cov.region rfl ?_;refine Cov.q .ro (.assign rfl) rfl ?_;refine Cov.region_end ?_;refine Cov.seq ?_;refine Cov.seq ?_;refine Cov.region rfl ?_;refine Cov.q .ro (.move rfl) rfl ?_;refine Cov.q .ro (.move rfl) rfl ?_
  obtain ⟨u4, hu4, r5⟩ := bind_some h; clear h
  obtain ⟨c6, p7, h8⟩ := SlR.get s0 hu4
  obtain ⟨a9, k10, rfl, s11⟩ := h8
  refine Cov.q .ro (.idxR s0 rfl rfl hu4 sl55 ty39.sz) rfl ?_;refine Cov.q .ro (.load_rp p7 List.mem_cons_self rfl ty39 rfl) rfl ?_;refine Cov.q .ro (.len_sl rfl rfl sl39) rfl ?_;refine Cov.q .ro (.move rfl) rfl ?_;refine Cov.region_end ?_;refine Cov.block ?_;refine Cov.pullS 2 rfl [_, _, _] rfl ?_
  refine Cov.loop2 (α := Nat × List Int × List Bool × List Value) (fun y => [(5, .slice a5 y.2.2.1.length k5), (22, .int .i64 (y.1 : Int))]) [(0, _), (1, _), (2, _), (3, _), (4, _), (20, _), (21, _)] (fun y => []) (fun y => []) [] (fun y => [.g (viewG bb5 4 pre5 y.2.2.2 post5)]) [_, _] (fun y => OL Rep.bool G y.2.2.2 y.2.2.1 ∧ VA a5 bb5 y.2.2.1.length k5 pre5 y.2.2.2 ∧ y.2.2.1.length = x5.length ∧ List.drop y.1 u4 = y.2.1 ∧ ref19_place_L2 (ref19_place_R n) x0 x2 x3 x4 x1 y.2.1 y.2.2.1 = some r) (fun y => y.2.1.length) (0, u4, x5, cc5) ⟨oo5, vva5, rfl, rfl, r5⟩ ⟨rfl, rfl, rfl, rfl, rfl, rfl, rfl, rfl, rfl, trivial⟩ rfl rfl rfl (fun y hI hb238 => ?_)
  obtain ⟨i228, w229, v231, cs232⟩ := y
  obtain ⟨o233, va234, hl235, g230, r237⟩ := hI
  try dsimp only at o233 va234 hl235 g230 r237
  refine Cov.prune [(5, .slice a5 v231.length k5), (22, .int .i64 (i228 : Int)), (0, _), (1, _), (2, _), (3, _), (4, _), (20, _), (21, _)] ⟨rfl, rfl, rfl, rfl, rfl, rfl, rfl, rfl, rfl, trivial⟩ ?_;refine Cov.same (bl' := []) (sl' := [.g (viewG bb5 4 pre5 cs232 post5), _, _]) (Fs' := G :: Fs) rfl rfl rfl ?_
  cases w229 with
  | nil =>
   rw [ref19_place_L2] at r237; try dsimp only at r237
   refine Cov.seq ?_;refine Cov.region rfl ?_;refine Cov.q .ro (.lss rfl rfl) rfl ?_;refine Cov.region_end ?_;refine Cov.seq ?_
   refine Cov.cond_dec rfl (fun c => absurd c (drop_nil g230)) (fun _ => ?_)
   refine Cov.exit rfl ?_;refine Cov.seq ?_;refine Cov.region rfl ?_;refine Cov.q .ro (.assign rfl) rfl ?_;refine Cov.region_end ?_
   cases r237
   refine Cov.pullS 2 rfl [_, _, _] rfl ?_;refine Cov.pullS 2 rfl [_, _, _] rfl ?_
   refine Cov.retS (c := ⟨75, none⟩) (.inr ⟨_, rfl⟩) [.tmp 12] [_] rfl Try.func75 Try.results75 ⟨RV.tmp rfl, trivial⟩ (fun _ h => List.mem_cons_of_mem _ h) (.inl ⟨rfl, ⟨cs232, rfl, rfl, rfl, o233, hl235⟩⟩)
  | cons x247 xs248 =>
   have r246 : ref19_place_B2 (ref19_place_R n) x0 x2 x3 x4 x1 (ref19_place_L2 (ref19_place_R n) x0 x2 x3 x4 x1 xs248) x247 v231 = some r := r237; clear r237; unfold ref19_place_B2 at r246; try dsimp only at r246
   refine Cov.seq ?_;refine Cov.region rfl ?_;refine Cov.q .ro (.lss rfl rfl) rfl ?_;refine Cov.region_end ?_;refine Cov.seq ?_
   refine Cov.cond_dec rfl (fun _ => ?_) (fun c => absurd (drop_lt g230) c)
   refine Cov.skip ?_;refine Cov.seq ?_;refine Cov.block ?_;refine Cov.seq ?_;refine Cov.region rfl ?_
   obtain ⟨c249, p250, h251⟩ := SlR.get s11 (drop_idx g230)
   obtain rfl := h251
   refine Cov.q .ro (.idxR s11 rfl rfl (drop_idx g230) sl39 ty3.sz) rfl ?_;refine Cov.q .ro (.load_rp p250 List.mem_cons_self rfl ty3 rfl) rfl ?_;refine Cov.q .ro (.assign rfl) rfl ?_;refine Cov.region_end ?_;refine Cov.seq ?_;refine Cov.seq ?_;refine Cov.region rfl ?_;refine Cov.q .ro (.move rfl) rfl ?_;refine Cov.q .ro (.move rfl) rfl ?_
   obtain ⟨u252, hu252, r253⟩ := bind_some r246; clear r246
   obtain ⟨c254, p255, h256⟩ := OL.get o233 hu252
   obtain rfl := h256
   refine Cov.q .ro (.idxV 0 rfl va234 o233 rfl rfl hu252 sl124 ty4.sz rfl rfl) rfl ?_;refine Cov.q .ro (.loadV 0 0 rfl va234 o233 rfl rfl hu252 p255 rfl (.inl ⟨rfl, rfl⟩) ty4 rfl) rfl ?_;refine Cov.region_end ?_
   refine Cov.cond rfl (fun c257 => ?_) (fun c257 => ?_)
   ·have r258 := ifT r253 c257; clear r253
    refine Cov.exit rfl ?_;refine Cov.region rfl ?_;refine Cov.q .ro (.addw rfl rfl) rfl ?_;refine Cov.q .ro (.move rfl) rfl ?_;refine Cov.region_end ?_
    refine Cov.prune _ ?_ (Cov.same rfl rfl rfl (hb238 ((i228 + 1), xs248, v231, cs232) ⟨o233, va234, hl235, (drop_succ g230), r258⟩ (Nat.lt_succ_self _)))
    exact ⟨rfl, (congrArg (fun z => some (Value.int .i64 z)) (idx_wrap (SlR.len s11) g230)), rfl, rfl, rfl, rfl, rfl, rfl, rfl, trivial⟩
   ·have r259 := ifBF r253 c257; clear r253
    refine Cov.skip ?_;refine Cov.seq ?_;refine Cov.region rfl ?_;refine Cov.q .ro (.move rfl) rfl ?_;refine Cov.q .ro (.move rfl) rfl ?_
    obtain ⟨u260, hu260, r261⟩ := bind_some r259; clear r259
    obtain ⟨c262, p263, h264⟩ := OL.get o233 hu260
    obtain rfl := h264
    refine Cov.q .ro (.idxV 0 rfl va234 o233 rfl rfl hu260 sl124 ty4.sz rfl rfl) rfl ?_
    obtain ⟨u265, hu265, r266⟩ := bind_some r261; clear r261
    refine Cov.storeV 0 0 (Q := Rep.bool) .ro rfl va234 rfl rfl o233 hu265 rfl (.inl ⟨rfl, rfl⟩) rfl ty4 p263 ((Rep.boolI true) :) rfl rfl (fun cs267 hlcs267 o268 va269 => ?_)
    refine Cov.reval 5 hlcs267 rfl ?_;refine Cov.reval 26 hlcs267 rfl ?_;refine Cov.reval 30 hlcs267 rfl ?_;refine Cov.region_end ?_;refine Cov.seq ?_;refine Cov.seq ?_;refine Cov.drawL (.q 0 (.q 1 (.q 5 (.q 6 (.q 7 (.q 8 (.q 10 (.e 2 1 (.e 3 1 (.q 4 (.q 9 (.q 11 .nil)))))))))))) [] (by kernel_rfl) (by kernel_rfl) (pick_mem [] rfl) ?_;refine Cov.dq (.move rfl) rfl ?_;refine Cov.dq (.move rfl) rfl ?_
    refine Cov.dq (.move rfl) rfl ?_;refine Cov.dq (.move rfl) rfl ?_
    obtain ⟨u271, hu271, r272⟩ := bind_some r266; clear r266
    obtain ⟨c273, p274, h275⟩ := SlR.get s2 hu271
    obtain rfl := h275
    refine Cov.dq (.idxR s2 rfl rfl hu271 sl39 ty3.sz) rfl ?_;refine Cov.dq (.load_rp p274 List.mem_cons_self rfl ty3 rfl) rfl ?_;refine Cov.dq (.move rfl) rfl ?_
    obtain ⟨u276, hu276, r277⟩ := bind_some r272; clear r272
    obtain ⟨e278, he279, hn280, ho281, p282⟩ := NL.get oo1 hu276
    refine Cov.q .d1 (.idxO 1 rfl rfl rfl hu276 sl55 ty39.sz) rfl ?_;refine Cov.clsL (HpLe.refl _) (pick_mem [] rfl) ?_;refine Cov.q .d1 (.loadO 1 0 rfl hu276 p282 rfl (.inl ⟨rfl, rfl⟩) ty39 rfl) rfl ?_;refine Cov.clsL (HpLe.refl _) (pick_mem [] rfl) ?_;refine Cov.dq (.len_sl rfl rfl sl39) rfl ?_;refine Cov.dq (.addw rfl rfl) rfl ?_;refine Cov.dq (.lss rfl rfl) rfl ?_;refine Cov.draw_end ?_;refine Cov.prune [(5, _), (22, _), (0, _), (1, _), (2, _), (3, _), (4, _), (20, _), (21, _), (14, _), (44, _)] ⟨rfl, rfl, rfl, rfl, rfl, rfl, rfl, rfl, rfl, rfl, rfl, trivial⟩ ?_
    refine Cov.cond_dec rfl (fun c283 => ?_) (fun c283 => ?_)
    ·have r284 := ifT r277 c283; clear r277
     refine Cov.seq ?_;refine Cov.region rfl ?_;refine Cov.q .ro (.move rfl) rfl ?_;refine Cov.q .ro (.move rfl) rfl ?_;refine Cov.q .ro (.move rfl) rfl ?_;refine Cov.q .ro (.move rfl) rfl ?_
     obtain ⟨u285, hu285, r286⟩ := bind_some r284; clear r284
     obtain ⟨e287, he288, hn289, ho290, p291⟩ := NL.get oo1 hu285
     refine Cov.q .ro (.idxO 1 rfl rfl rfl hu285 sl55 ty39.sz) rfl ?_;refine Cov.q .ro (.loadO 1 0 rfl hu285 p291 rfl (.inl ⟨rfl, rfl⟩) ty39 rfl) rfl ?_;refine Cov.q .ro (.move rfl) rfl ?_
     refine Cov.lit [_] [(0, _)] .ro sl39 ty3 rfl rfl rfl rfl rfl rfl (fun b292 hb292 => ?_)
     have o293 : OL (Rep.int .i64) G [.int .i64 x4] ([x4] : List Int) := ((OL.cons rfl (Rep.intI .i64 x4) (OL.nil (Rp' := (Rep.int .i64)))) :)
     refine Cov.reval 52 (n' := ([x4] : List Int).length) rfl rfl ?_
     refine Cov.freezeR 0 rfl rfl o293 [_, _, _] rfl B0 (fun G295 e296 B297 s298 => ?_)
     refine Cov.takeN 2 rfl he288 hn289 ?_
     obtain ⟨u305, hu305, r306⟩ := bind_some r286; clear r286
     refine Cov.appR (Q := (Rep.int .i64)) 0 .ro sl39 ty3 rfl rfl rfl rfl rfl (OL.mono e296 ho290) rfl rfl s298 rfl List.mem_cons_self hu305 rfl (fun a301 k302 cs303 o304 => ?_)
     obtain ⟨u308, hu308, r309⟩ := bind_some r306; clear r306
     obtain ⟨e310, he311, hn312, ho313, p314⟩ := NL.get (NL.mono e296 oo1) hu308
     refine Cov.q .ro (.idxO 2 rfl rfl rfl hu308 sl55 ty39.sz) rfl ?_
     obtain ⟨u315, hu315, r316⟩ := bind_some r309; clear r309
     refine Cov.storeN 1 2 (Q := (Rep.int .i64)) .ro rfl rfl rfl (NL.mono e296 oo1) he288 o304 hu315 rfl (.inl ⟨rfl, rfl⟩) rfl ty39 rfl (fun es317 cs318 hlcs318 o319 => ?_)
     refine Cov.reval 1 hlcs318 rfl ?_;refine Cov.reval 45 hlcs318 rfl ?_;refine Cov.reval 47 hlcs318 rfl ?_;refine Cov.region_end ?_;refine Cov.prune [] trivial ?_;refine Cov.seq ?_;refine Cov.region rfl ?_;refine Cov.q .ro (.assign rfl) rfl ?_;refine Cov.region_end ?_
     cases r316
     refine Cov.pullS 2 rfl [_, _, _] rfl ?_;refine Cov.pullS 2 rfl [_, _, _] rfl ?_
     refine Cov.retS (c := ⟨75, none⟩) (.inr ⟨_, rfl⟩) [.tmp 12] [_] rfl Try.func75 Try.results75 ⟨RV.tmp rfl, trivial⟩ (fun _ h => List.mem_cons_of_mem _ h) (.inr ⟨rfl, ⟨es317, cs318, cs267, rfl, rfl, rfl, (NL.flat (Rep.flat_int _) o319), hlcs318, (OL.flat Rep.flat_bool (OL.mono e296 o268)), (hlcs267.trans hl235)⟩⟩)
    ·have r321 := ifF r277 c283; clear r277
     refine Cov.skip ?_;refine Cov.seq ?_;refine Cov.region rfl ?_;refine Cov.q .ro (.move rfl) rfl ?_;refine Cov.q .ro (.move rfl) rfl ?_
     obtain ⟨u322, hu322, r323⟩ := bind_some r321; clear r321
     obtain ⟨e324, he325, hn326, ho327, p328⟩ := NL.get oo1 hu322
     refine Cov.q .ro (.idxO 1 rfl rfl rfl hu322 sl55 ty39.sz) rfl ?_;refine Cov.q .ro (.loadO 1 0 rfl hu322 p328 rfl (.inl ⟨rfl, rfl⟩) ty39 rfl) rfl ?_;refine Cov.q .ro (.len_sl rfl rfl sl39) rfl ?_;refine Cov.q .ro (.move rfl) rfl ?_;refine Cov.region_end ?_;refine Cov.block ?_
     refine Cov.loop2 (α := Nat × List Int × List Bool × List Value) (fun y => [(5, .slice a5 y.2.2.1.length k5), (60, .int .i64 (y.1 : Int))]) [(22, _), (0, _), (1, _), (2, _), (3, _), (4, _), (20, _), (21, _), (14, _), (58, _), (59, _)] (fun y => []) (fun y => []) [] (fun y => [.g (viewG bb5 4 pre5 y.2.2.2 post5)]) [_, _] (fun y => OL Rep.bool G y.2.2.2 y.2.2.1 ∧ VA a5 bb5 y.2.2.1.length k5 pre5 y.2.2.2 ∧ y.2.2.1.length = x5.length ∧ List.drop y.1 u322 = y.2.1 ∧ ref19_place_L1 (ref19_place_L2 (ref19_place_R n) x0 x2 x3 x4 x1 xs248) (ref19_place_R n) x0 x2 x3 x4 x247 x1 y.2.1 y.1 y.2.2.1 = some r) (fun y => y.2.1.length) (0, u322, u265, cs267) ⟨o268, va269, (hlcs267.trans hl235), rfl, r323⟩ ⟨rfl, rfl, rfl, rfl, rfl, rfl, rfl, rfl, rfl, rfl, rfl, rfl, rfl, trivial⟩ rfl rfl rfl (fun y hI hb395 => ?_)
     obtain ⟨i385, w386, v388, cs389⟩ := y
     obtain ⟨o390, va391, hl392, g387, r394⟩ := hI
     try dsimp only at o390 va391 hl392 g387 r394
     refine Cov.prune [(5, .slice a5 v388.length k5), (60, .int .i64 (i385 : Int)), (22, _), (0, _), (1, _), (2, _), (3, _), (4, _), (20, _), (21, _), (14, _), (58, _), (59, _)] ⟨rfl, rfl, rfl, rfl, rfl, rfl, rfl, rfl, rfl, rfl, rfl, rfl, rfl, trivial⟩ ?_;refine Cov.same (bl' := []) (sl' := [.g (viewG bb5 4 pre5 cs389 post5), _, _]) (Fs' := G :: Fs) rfl rfl rfl ?_
     cases w386 with
     | nil =>
      rw [ref19_place_L1] at r394; try dsimp only at r394
      refine Cov.seq ?_;refine Cov.region rfl ?_;refine Cov.q .ro (.lss rfl rfl) rfl ?_;refine Cov.region_end ?_;refine Cov.seq ?_
      refine Cov.cond_dec rfl (fun c => absurd c (drop_nil g387)) (fun _ => ?_)
      refine Cov.exit rfl ?_;refine Cov.inBlock ?_;refine Cov.region rfl ?_;refine Cov.q .ro (.addw rfl rfl) rfl ?_;refine Cov.q .ro (.move rfl) rfl ?_;refine Cov.region_end ?_
      refine Cov.prune _ ?_ (Cov.same rfl rfl rfl (hb238 ((i228 + 1), xs248, v388, cs389) ⟨o390, va391, hl392, (drop_succ g230), r394⟩ (Nat.lt_succ_self _)))
      exact ⟨rfl, (congrArg (fun z => some (Value.int .i64 z)) (idx_wrap (SlR.len s11) g230)), rfl, rfl, rfl, rfl, rfl, rfl, rfl, trivial⟩
     | cons x408 xs409 =>
      have r407 : ref19_place_B1 (ref19_place_L2 (ref19_place_R n) x0 x2 x3 x4 x1 xs248) (ref19_place_R n) x0 x2 x3 x4 x247 x1 (ref19_place_L1 (ref19_place_L2 (ref19_place_R n) x0 x2 x3 x4 x1 xs248) (ref19_place_R n) x0 x2 x3 x4 x247 x1 xs409 (i385 + 1)) x408 i385 v388 = some r := r394; clear r394; unfold ref19_place_B1 at r407; try dsimp only at r407
      refine Cov.seq ?_;refine Cov.region rfl ?_;refine Cov.q .ro (.lss rfl rfl) rfl ?_;refine Cov.region_end ?_;refine Cov.seq ?_
      refine Cov.cond_dec rfl (fun _ => ?_) (fun c => absurd (drop_lt g387) c)
      refine Cov.skip ?_;refine Cov.seq ?_;refine Cov.block ?_;refine Cov.seq ?_;refine Cov.region rfl ?_;refine Cov.q .ro (.move rfl) rfl ?_
      obtain ⟨c410, p411, h412⟩ := OL.get ho327 (drop_idx g387)
      obtain rfl := h412
      refine Cov.q .ro (.inN 2 rfl he325 hn326 (.idxO (l := u322) 0 rfl rfl rfl (drop_idx g387) sl39 ty3.sz)) rfl ?_;refine Cov.q .ro (.inN 2 rfl he325 hn326 (.loadO (l := u322) 0 0 rfl (drop_idx g387) p411 rfl (.inl ⟨rfl, rfl⟩) ty3 rfl)) rfl ?_;refine Cov.q .ro (.assign rfl) rfl ?_;refine Cov.q .ro (.assign rfl) rfl ?_;refine Cov.region_end ?_;refine Cov.seq ?_;refine Cov.region rfl ?_;refine Cov.q .ro (.move rfl) rfl ?_;refine Cov.q .ro (.move rfl) rfl ?_
      refine Cov.q .ro (.move rfl) rfl ?_;refine Cov.q .ro (.move rfl) rfl ?_;refine Cov.q .ro (.move rfl) rfl ?_;refine Cov.q .ro (.move rfl) rfl ?_
      obtain ⟨u413, hu413, r414⟩ := bind_some r407; clear r407
      refine Cov.pullS 2 rfl [_, _, _] rfl ?_;refine Cov.pullS 2 rfl [_, _, _] rfl ?_
      refine Cov.callS (b1 := []) (b2 := []) (s1 := [_, _, _]) [_, _, _, _, _, _] [] .ro rfl rfl Try.call75 rfl rfl (ih (G := G) List.mem_cons_self s0 oo1 s2 va391 o390 hu413) rfl (fun v416 bo so h415 => ?_)
      rcases h415 with ⟨hb417, h415⟩ | ⟨hb417, h415⟩
      ·have r418 := ifBF r414 hb417
       obtain ⟨cs419, rfl, rfl, rfl, o420, hl421⟩ := h415
       refine Cov.same (bl' := []) (sl' := [_, _, _]) rfl rfl rfl ?_
       have va423 := VA.call va391 o390 o420 hl421
       refine Cov.reval 5 hl421 rfl ?_;refine Cov.reval 70 hl421 rfl ?_;refine Cov.region_end ?_;refine Cov.cond_false rfl ?_;refine Cov.skip ?_;refine Cov.inBlock ?_;refine Cov.region rfl ?_;refine Cov.q .ro (.addw rfl rfl) rfl ?_;refine Cov.q .ro (.move rfl) rfl ?_
       refine Cov.region_end ?_;refine Cov.prune [(5, _), (60, _), (22, _), (0, _), (1, _), (2, _), (3, _), (4, _), (20, _), (21, _), (14, _), (58, _), (59, _)] ⟨rfl, rfl, rfl, rfl, rfl, rfl, rfl, rfl, rfl, rfl, rfl, rfl, rfl, trivial⟩ ?_;refine Cov.pullS 1 rfl [_, _, _] rfl ?_;refine Cov.pullS 1 rfl [_, _, _] rfl ?_;refine Cov.pullS 2 rfl [_, _, _] rfl ?_
       refine Cov.prune _ ?_ (Cov.same rfl rfl rfl (hb395 ((i385 + 1), xs409, u413.2.2, cs419) ⟨o420, va423, (hl421.trans hl392), (drop_succ g387), r418⟩ (Nat.lt_succ_self _)))
       exact ⟨rfl, (congrArg (fun z => some (Value.int .i64 z)) (idx_wrap (OL.len' ho327) g387)), rfl, rfl, rfl, rfl, rfl, rfl, rfl, rfl, rfl, rfl, rfl, trivial⟩
      ·have r424 := ifT r414 hb417
       obtain ⟨es428, cs425, cs429, rfl, rfl, rfl, o426, hl427, o430, hl431⟩ := h415
       refine Cov.same (bl' := []) (sl' := [_, _, _]) rfl rfl rfl ?_
       have va434 := VA.call va391 o390 o430 hl431
       refine Cov.reval 1 hl427 rfl ?_;refine Cov.reval 66 hl427 rfl ?_;refine Cov.reval 5 hl431 rfl ?_;refine Cov.reval 70 hl431 rfl ?_;refine Cov.region_end ?_;refine Cov.cond_true rfl ?_;refine Cov.seq ?_;refine Cov.region rfl ?_;refine Cov.q .ro (.move rfl) rfl ?_
       refine Cov.q .ro (.move rfl) rfl ?_
       obtain ⟨u435, hu435, r436⟩ := bind_some r424; clear r424
       obtain ⟨e437, he438, hn439, ho440, p441⟩ := NL.get o426 hu435
       refine Cov.q .ro (.idxO 0 rfl rfl rfl hu435 sl55 ty39.sz) rfl ?_;refine Cov.q .ro (.loadO 0 0 rfl hu435 p441 rfl (.inl ⟨rfl, rfl⟩) ty39 rfl) rfl ?_;refine Cov.q .ro (.move rfl) rfl ?_;refine Cov.q .ro (.move rfl) rfl ?_
       obtain ⟨u442, hu442, r443⟩ := bind_some r436; clear r436
       obtain ⟨c444, p445, h446⟩ := OL.get ho440 hu442
       obtain rfl := h446
       refine Cov.q .ro (.inN 1 rfl he438 hn439 (.idxO (l := u435) 0 rfl rfl rfl hu442 sl39 ty3.sz)) rfl ?_;refine Cov.takeN 1 rfl he438 hn439 ?_
       obtain ⟨u448, hu448, r449⟩ := bind_some r443; clear r443
       refine Cov.storeR 0 0 (Q := (Rep.int .i64)) .ro rfl rfl ho440 hu448 rfl (.inl ⟨rfl, rfl⟩) rfl ty3 p445 ((Rep.intI .i64 x4) :) rfl rfl (fun cs450 hlcs450 o451 => ?_)
       obtain ⟨u453, hu453, r454⟩ := bind_some r449; clear r449
       refine Cov.backN 0 1 rfl rfl rfl o426 he438 (Eq.trans hlcs450 hn439.symm) o451 hu453 (fun es455 hles455 o456 => ?_)
       refine Cov.reval 1 hles455 rfl ?_;refine Cov.reval 66 hles455 rfl ?_;refine Cov.reval 72 hles455 rfl ?_;refine Cov.region_end ?_;refine Cov.prune [] trivial ?_;refine Cov.seq ?_;refine Cov.region rfl ?_;refine Cov.q .ro (.assign rfl) rfl ?_;refine Cov.region_end ?_
       cases r454
       refine Cov.retS (c := ⟨75, none⟩) (.inr ⟨_, rfl⟩) [.tmp 12] [_] rfl Try.func75 Try.results75 ⟨RV.tmp rfl, trivial⟩ (fun _ h => List.mem_cons_of_mem _ h) (.inr ⟨rfl, ⟨es455, cs425, cs429, rfl, rfl, rfl, o456, (hles455.trans hl427), o430, (hl431.trans hl392)⟩⟩)
theorem ref19_place_c {Fs : List Hp} {G : Hp} {a0 : Option Addr} {k0 : Nat} {x0 : List (List Int)} {a1 : Option Addr} {k1 : Nat} {x1 : List (List Int)} {cc1 : List Value} {ee1 : List NE} {a2 : Option Addr} {k2 : Nat} {x2 : List Int} {x3 : Int} {x4 : Int} {a5 : Option Addr} {k5 : Nat} {x5 : List Bool} {cc5 : List Value} {bb5 : Option Nat} {pre5 post5 : List Value} {r : (Bool × (List (List Int)) × (List Bool))} (hG : G ∈ Fs) (s0 : SlR (Rep.sl (Rep.int .i64)) G a0 k0 x0) (oo1 : NL (Rep.int .i64) G ee1 cc1 x1) (s2 : SlR (Rep.int .i64) G a2 k2 x2) (vva5 : VA a5 bb5 x5.length k5 pre5 cc5) (oo5 : OL Rep.bool G cc5 x5) (h : ref19_place x0 x1 x2 x3 x4 x5 = some r) : RetS Try.prog 75 #[.slice a0 x0.length k0, .slice a1 x1.length k1, .slice a2 x2.length k2, .int .i64 x3, .int .i64 x4, .slice a5 x5.length k5] Fs [] [.s (.slice a1 x1.length k1) 39 1 x1.length cc1, .g (packG 3 1 ee1), .g (viewG bb5 4 pre5 cc5 post5)] (fun v bo so => (r.1 = false ∧ ∃ lc0 : List Value, v = .bool false ∧ bo = [] ∧ so = [.s (.slice a1 x1.length k1) 39 1 x1.length cc1, .g (packG 3 1 ee1), .g (viewG bb5 4 pre5 lc0 post5)] ∧ OL Rep.bool G lc0 r.2.2 ∧ r.2.2.length = x5.length) ∨ (r.1 = true ∧ ∃ le0 : List NE, ∃ lc0 : List Value, ∃ lc1 : List Value, v = .bool true ∧ bo = [] ∧ so = [.s (.slice a1 r.2.1.length k1) 39 1 r.2.1.length lc0, .g (packG 3 1 le0), .g (viewG bb5 4 pre5 lc1 post5)] ∧ NL (Rep.int .i64) G le0 lc0 r.2.1 ∧ r.2.1.length = x1.length ∧ OL Rep.bool G lc1 r.2.2 ∧ r.2.2.length = x5.length)) := by
 unfold ref19_place at h
 exact ref19_place_R_c big hG s0 oo1 s2 vva5 oo5 h
set_option maxHeartbeats 4000000 in
set_option maxRecDepth 100000 in
theorem ref19_Possible_c {Fs : List Hp} {G : Hp} {a0 : Option Addr} {k0 : Nat} {x0 : List (List Int)} {x1 : Int} {x2 : Int} {a3 : Option Addr} {k3 : Nat} {x3 : List Int} {r : Bool} (hG : G ∈ Fs) (s0 : SlR (Rep.sl (Rep.int .i64)) G a0 k0 x0) (s3 : SlR (Rep.int .i64) G a3 k3 x3) (h : ref19_Possible x0 x1 x2 x3 = some r) : RetS Try.prog 61 #[.slice a0 x0.length k0, .int .i64 x1, .int .i64 x2, .slice a3 x3.length k3] Fs [] [] (fun v bo so => v = .bool r ∧ bo = [] ∧ so = []) := by
 unfold ref19_Possible at h
 try dsimp only at h
 refine RetS.of (vs := [_, _, _, _]) Try.func61 rfl Try.ntmps61 [(0, _), (1, _), (2, _), (3, _)] ⟨rfl, rfl, rfl, rfl, trivial⟩ rfl hG fun w0 S0 hS0 B0 => ?_
 refine Cov.seq ?_;refine Cov.region rfl ?_;refine Cov.q .ro (.assign rfl) rfl ?_;refine Cov.region_end ?_;refine Cov.seq ?_;refine Cov.region rfl ?_;refine Cov.q .ro (.move rfl) rfl ?_
 obtain ⟨u1, hu1, r2⟩ := bind_some h; clear h
 refine Cov.makeN (G := G) (Q := (Rep.int .i64)) 3 1 .ro sl55 ty39 rfl rfl hu1 rfl rfl (fun b3 es4 cs5 hb3 o6 => ?_)
 refine Cov.q .ro (.assign rfl) rfl ?_;refine Cov.region_end ?_;refine Cov.seq ?_;refine Cov.seq ?_;refine Cov.region rfl ?_;refine Cov.q .ro (.move rfl) rfl ?_;refine Cov.q .ro (.len_sl rfl rfl sl55) rfl ?_;refine Cov.q .ro (.move rfl) rfl ?_;refine Cov.region_end ?_
 refine Cov.block ?_;refine Cov.pullS 1 rfl [_, _] rfl ?_;refine Cov.pullS 1 rfl [_, _] rfl ?_
 refine Cov.loop2 (α := Nat × List (List Int) × List (List Int) × List NE × List Value) (fun y => [(9, .slice (some ⟨b3, 0, none⟩) y.2.2.1.length u1.length), (16, .int .i64 (y.1 : Int))]) [(0, _), (1, _), (2, _), (3, _), (15, _)] (fun y => []) (fun y => []) [] (fun y => [.s (.slice (some ⟨b3, 0, none⟩) y.2.2.1.length u1.length) 39 1 y.2.2.1.length y.2.2.2.2, .g (packG 3 1 y.2.2.2.1)]) [] (fun y => NL (Rep.int .i64) G y.2.2.2.1 y.2.2.2.2 y.2.2.1 ∧ y.2.2.1.length = u1.length ∧ List.drop y.1 x0 = y.2.1 ∧ ref19_Possible_L1 x0 x1 x2 x3 y.2.1 y.1 y.2.2.1 = some r) (fun y => y.2.1.length) (0, x0, u1, es4, cs5) ⟨o6, rfl, rfl, r2⟩ ⟨rfl, rfl, rfl, rfl, rfl, rfl, rfl, trivial⟩ rfl rfl rfl (fun y hI hb56 => ?_)
 obtain ⟨i45, w46, v48, es49, cs50⟩ := y
 obtain ⟨o51, hl52, g47, r55⟩ := hI
 try dsimp only at o51 hl52 g47 r55
 refine Cov.prune [(9, .slice (some ⟨b3, 0, none⟩) v48.length u1.length), (16, .int .i64 (i45 : Int)), (0, _), (1, _), (2, _), (3, _), (15, _)] ⟨rfl, rfl, rfl, rfl, rfl, rfl, rfl, trivial⟩ ?_;refine Cov.same (bl' := []) (sl' := [.s (.slice (some ⟨b3, 0, none⟩) v48.length u1.length) 39 1 v48.length cs50, .g (packG 3 1 es49)]) (Fs' := G :: Fs) rfl rfl rfl ?_
 cases w46 with
 | nil =>
  rw [ref19_Possible_L1] at r55; try dsimp only at r55
  refine Cov.seq ?_;refine Cov.region rfl ?_;refine Cov.q .ro (.lss rfl rfl) rfl ?_;refine Cov.region_end ?_;refine Cov.seq ?_
  refine Cov.cond_dec rfl (fun c => absurd c (drop_nil g47)) (fun _ => ?_)
  refine Cov.exit rfl ?_;refine Cov.seq ?_;refine Cov.region rfl ?_;refine Cov.q .ro (.assign rfl) rfl ?_;refine Cov.region_end ?_
  cases r55
  refine Cov.drop 0 2 _ [] rfl rfl ?_
  refine Cov.retS (c := ⟨61, none⟩) (.inr ⟨_, rfl⟩) [.tmp 8] [_] rfl Try.func61 Try.results61 ⟨RV.tmp rfl, trivial⟩ (fun _ h => List.mem_cons_of_mem _ h) ⟨rfl, rfl, rfl⟩
 | cons x63 xs64 =>
  have r62 : ref19_Possible_B1 x0 x1 x2 x3 (ref19_Possible_L1 x0 x1 x2 x3 xs64 (i45 + 1)) x63 i45 v48 = some r := r55; clear r55; unfold ref19_Possible_B1 at r62; try dsimp only at r62
  refine Cov.seq ?_;refine Cov.region rfl ?_;refine Cov.q .ro (.lss rfl rfl) rfl ?_;refine Cov.region_end ?_;refine Cov.seq ?_
  refine Cov.cond_dec rfl (fun _ => ?_) (fun c => absurd (drop_lt g47) c)
  refine Cov.skip ?_;refine Cov.seq ?_;refine Cov.block ?_;refine Cov.seq ?_;refine Cov.region rfl ?_;refine Cov.q .ro (.move rfl) rfl ?_;refine Cov.q .ro (.assign rfl) rfl ?_;refine Cov.region_end ?_;refine Cov.seq ?_
  refine Cov.region rfl ?_;refine Cov.q .ro (.move rfl) rfl ?_
  obtain ⟨u65, hu65, r66⟩ := bind_some r62; clear r62
  refine Cov.makeR (G := G) (Q := Rep.bool) .ro sl124 ty4 rfl rfl rfl ((Rep.boolI false) :) rfl rfl hu65 rfl rfl (fun b67 cs68 hb67 o69 => ?_)
  refine Cov.q .ro (.assign rfl) rfl ?_;refine Cov.region_end ?_;refine Cov.seq ?_;refine Cov.region rfl ?_;refine Cov.q .ro (.move rfl) rfl ?_;refine Cov.q .ro (.move rfl) rfl ?_;refine Cov.q .ro (.move rfl) rfl ?_;refine Cov.q .ro (.move rfl) rfl ?_;refine Cov.q .ro (.move rfl) rfl ?_
  refine Cov.q .ro (.move rfl) rfl ?_
  refine Cov.toV 0 rfl (fun vb71 po72 va73 vb74 => ?_)
  obtain ⟨u75, hu75, r76⟩ := bind_some r66; clear r66
  refine Cov.pullS 2 rfl [_, _, _] rfl ?_;refine Cov.pullS 2 rfl [_, _, _] rfl ?_
  refine Cov.callS (b1 := []) (b2 := []) (s1 := [_, _, _]) [_, _, _, _, _, _] [] .ro rfl rfl Try.call75 rfl rfl (ref19_place_c (G := G) List.mem_cons_self s0 o51 s3 va73 o69 hu75) rfl (fun v78 bo so h77 => ?_)
  rcases h77 with ⟨hb79, h77⟩ | ⟨hb79, h77⟩
  ·have r80 := ifBF r76 hb79
   obtain ⟨cs81, rfl, rfl, rfl, o82, hl83⟩ := h77
   refine Cov.same (bl' := []) (sl' := [_, _, _]) rfl rfl rfl ?_;refine Cov.ofV 2 rfl vb74 hl83 o82 rfl ?_;refine Cov.reval 20 hl83 rfl ?_;refine Cov.reval 11 hl83 rfl ?_;refine Cov.reval 26 hl83 rfl ?_;refine Cov.q .ro (.not_f rfl) rfl ?_;refine Cov.region_end ?_;refine Cov.prune [(9, _), (16, _), (0, _), (1, _), (2, _), (3, _), (15, _), (28, _)] ⟨rfl, rfl, rfl, rfl, rfl, rfl, rfl, rfl, trivial⟩ ?_;refine Cov.cond_true rfl ?_
   refine Cov.seq ?_;refine Cov.region rfl ?_;refine Cov.q .ro (.assign rfl) rfl ?_;refine Cov.region_end ?_
   cases r80
   refine Cov.drop 0 3 _ [] rfl rfl ?_
   refine Cov.retS (c := ⟨61, none⟩) (.inr ⟨_, rfl⟩) [.tmp 8] [_] rfl Try.func61 Try.results61 ⟨RV.tmp rfl, trivial⟩ (fun _ h => List.mem_cons_of_mem _ h) ⟨rfl, rfl, rfl⟩
  ·have r85 := ifT r76 hb79
   obtain ⟨es89, cs86, cs90, rfl, rfl, rfl, o87, hl88, o91, hl92⟩ := h77
   refine Cov.same (bl' := []) (sl' := [_, _, _]) rfl rfl rfl ?_;refine Cov.ofV 2 rfl vb74 hl92 o91 rfl ?_;refine Cov.reval 9 hl88 rfl ?_;refine Cov.reval 22 hl88 rfl ?_;refine Cov.reval 20 hl92 rfl ?_;refine Cov.reval 11 hl92 rfl ?_;refine Cov.reval 26 hl92 rfl ?_;refine Cov.q .ro (.not_t rfl) rfl ?_;refine Cov.region_end ?_
   refine Cov.prune [(9, _), (16, _), (0, _), (1, _), (2, _), (3, _), (15, _), (28, _)] ⟨rfl, rfl, rfl, rfl, rfl, rfl, rfl, rfl, trivial⟩ ?_;refine Cov.cond_false rfl ?_;refine Cov.skip ?_;refine Cov.inBlock ?_;refine Cov.region rfl ?_;refine Cov.q .ro (.addw rfl rfl) rfl ?_;refine Cov.q .ro (.move rfl) rfl ?_;refine Cov.region_end ?_;refine Cov.pullS 1 rfl [_, _, _] rfl ?_
   refine Cov.pullS 1 rfl [_, _, _] rfl ?_;refine Cov.pullS 2 rfl [_, _, _] rfl ?_;refine Cov.drop 0 1 _ [_, _] rfl rfl ?_
   refine Cov.prune _ ?_ (Cov.same rfl rfl rfl (hb56 ((i45 + 1), xs64, u75.2.1, es89, cs86) ⟨o87, (hl88.trans hl52), (drop_succ g47), r85⟩ (Nat.lt_succ_self _)))
   exact ⟨rfl, (congrArg (fun z => some (Value.int .i64 z)) (idx_wrap (SlR.len s0) g47)), rfl, rfl, rfl, rfl, rfl, trivial⟩
set_option maxHeartbeats 4000000 in
set_option maxRecDepth 100000 in
theorem ref19_First_c {Fs : List Hp} {G : Hp} {a0 : Option Addr} {k0 : Nat} {x0 : List (List Int)} {x1 : Int} {x2 : Int} {r : ((List Int) × Bool)} (hG : G ∈ Fs) (s0 : SlR (Rep.sl (Rep.int .i64)) G a0 k0 x0) (h : ref19_First x0 x1 x2 = some r) : RetS Try.prog 40 #[.slice a0 x0.length k0, .int .i64 x1, .int .i64 x2] Fs [] [] (fun v bo so => ∃ (oa0 : Option Addr) (ok0 : Nat) (oc0 : List Value), v = .tuple #[.slice oa0 r.1.length ok0, .bool r.2] ∧ bo = [] ∧ so = [.s (.slice oa0 r.1.length ok0) 3 1 r.1.length oc0] ∧ OL (Rep.int .i64) G oc0 r.1) := by
 unfold ref19_First at h
 try dsimp only at h
 refine RetS.of (vs := [_, _, _]) Try.func40 rfl Try.ntmps40 [(0, _), (1, _), (2, _)] ⟨rfl, rfl, rfl, trivial⟩ rfl hG fun w0 S0 hS0 B0 => ?_
 refine Cov.seq ?_;refine Cov.region rfl ?_;refine Cov.q .ro (.assign rfl) rfl ?_;refine Cov.q .ro (.assign rfl) rfl ?_;refine Cov.region_end ?_;refine Cov.seq ?_;refine Cov.region rfl ?_;refine Cov.q .ro (.move rfl) rfl ?_
 obtain ⟨u1, hu1, r2⟩ := bind_some h; clear h
 refine Cov.makeR (G := G) (Q := (Rep.int .i64)) .ro sl39 ty3 rfl rfl rfl ((Rep.intI .i64 0) :) rfl rfl hu1 rfl rfl (fun b3 cs4 hb3 o5 => ?_)
 refine Cov.q .ro (.assign rfl) rfl ?_;refine Cov.region_end ?_;refine Cov.seq ?_;refine Cov.seq ?_;refine Cov.region rfl ?_;refine Cov.q .ro (.move rfl) rfl ?_;refine Cov.q .ro (.move rfl) rfl ?_;refine Cov.q .ro (.move rfl) rfl ?_;refine Cov.q .ro (.move rfl) rfl ?_
 obtain ⟨u7, hu7, r8⟩ := bind_some r2; clear r2
 refine Cov.callB (Q := fun v bo so => v = .bool u7 ∧ bo = [] ∧ so = []) (b1 := []) (b2 := []) (s1 := []) (sB := [_]) (s2 := []) [_, _, _, _] [] .ro rfl rfl Try.call61 rfl rfl (fun Fs' G' hle hB hm => (ref19_Possible_c (G := G') hm (SlR.mono hle s0) (SlR.rd o5 rfl hle (hB _ (List.mem_of_getElem? (i := 0) rfl))) hu7)) rfl (fun v10 bo so h9 => ?_)
 obtain ⟨rfl, rfl, rfl⟩ := h9
 refine Cov.same (bl' := []) (sl' := [_]) rfl rfl rfl ?_;refine Cov.q .ro (.not rfl) rfl ?_;refine Cov.region_end ?_
 refine Cov.cond rfl (fun c11 => ?_) (fun c11 => ?_)
 ·have r12 := ifT r8 c11; clear r8
  refine Cov.seq ?_;refine Cov.region rfl ?_;refine Cov.q .ro (.assign rfl) rfl ?_;refine Cov.q .ro (.assign rfl) rfl ?_;refine Cov.region_end ?_;refine Cov.own_nil 3 1 ?_
  cases r12
  refine Cov.pullS 1 rfl [_, _] rfl ?_;refine Cov.drop 0 1 _ [_] rfl rfl ?_
  refine Cov.retS (c := ⟨40, none⟩) (.inr ⟨_, rfl⟩) [.tmp 6, .tmp 7] [_, _] rfl Try.func40 Try.results40 ⟨RV.tmp rfl, RV.tmp rfl, trivial⟩ (fun _ h => List.mem_cons_of_mem _ h) ⟨none, 0, [], rfl, rfl, rfl, (OL.nil (Rp' := (Rep.int .i64)))⟩
 ·have r14 := ifBF r8 c11; clear r8
  refine Cov.skip ?_;refine Cov.seq ?_;refine Cov.region rfl ?_;refine Cov.q .ro (.assign rfl) rfl ?_;refine Cov.region_end ?_;refine Cov.seq ?_;refine Cov.seq ?_;refine Cov.region rfl ?_;refine Cov.q .ro (.move rfl) rfl ?_
  refine Cov.q .ro (.len_sl rfl rfl sl55) rfl ?_;refine Cov.q .ro (.move rfl) rfl ?_;refine Cov.region_end ?_;refine Cov.block ?_;refine Cov.own_nil 3 1 ?_;refine Cov.pullS 1 rfl [_, _] rfl ?_;refine Cov.pullS 1 rfl [_, _] rfl ?_
  refine Cov.loop2 (α := Nat × List (List Int) × List Int × Option Addr × Nat × List Value × List Int × Option Addr × Nat × List Value) (fun y => [(9, .slice y.2.2.2.1 y.2.2.1.length y.2.2.2.2.1), (8, .slice y.2.2.2.2.2.2.2.1 y.2.2.2.2.2.2.1.length y.2.2.2.2.2.2.2.2.1), (24, .int .i64 (y.1 : Int))]) [(0, _), (1, _), (2, _), (22, _), (23, _)] (fun y => []) (fun y => []) [] (fun y => [.s (.slice y.2.2.2.1 y.2.2.1.length y.2.2.2.2.1) 3 1 y.2.2.1.length y.2.2.2.2.2.1, .s (.slice y.2.2.2.2.2.2.2.1 y.2.2.2.2.2.2.1.length y.2.2.2.2.2.2.2.2.1) 3 1 y.2.2.2.2.2.2.1.length y.2.2.2.2.2.2.2.2.2]) [] (fun y => OL (Rep.int .i64) G y.2.2.2.2.2.1 y.2.2.1 ∧ OL (Rep.int .i64) G y.2.2.2.2.2.2.2.2.2 y.2.2.2.2.2.2.1 ∧ List.drop y.1 x0 = y.2.1 ∧ ref19_First_L2 x0 x1 x2 y.2.1 y.1 y.2.2.1 y.2.2.2.2.2.2.1 = some r) (fun y => y.2.1.length) (0, x0, ([] : List Int), none, 0, [], u1, (some ⟨b3, 0, none⟩), u1.length, cs4) ⟨(OL.nil (Rp' := (Rep.int .i64))), o5, rfl, r14⟩ ⟨rfl, rfl, rfl, rfl, rfl, rfl, rfl, rfl, trivial⟩ rfl rfl rfl (fun y hI hb381 => ?_)
  obtain ⟨i365, w366, v368, a369, k370, cs371, v374, a375, k376, cs377⟩ := y
  obtain ⟨o372, o378, g367, r380⟩ := hI
  try dsimp only at o372 o378 g367 r380
  refine Cov.prune [(9, .slice a369 v368.length k370), (8, .slice a375 v374.length k376), (24, .int .i64 (i365 : Int)), (0, _), (1, _), (2, _), (22, _), (23, _)] ⟨rfl, rfl, rfl, rfl, rfl, rfl, rfl, rfl, trivial⟩ ?_;refine Cov.same (bl' := []) (sl' := [.s (.slice a369 v368.length k370) 3 1 v368.length cs371, .s (.slice a375 v374.length k376) 3 1 v374.length cs377]) (Fs' := G :: Fs) rfl rfl rfl ?_
  cases w366 with
  | nil =>
   rw [ref19_First_L2] at r380; try dsimp only at r380
   refine Cov.seq ?_;refine Cov.region rfl ?_;refine Cov.q .ro (.lss rfl rfl) rfl ?_;refine Cov.region_end ?_;refine Cov.seq ?_
   refine Cov.cond_dec rfl (fun c => absurd c (drop_nil g367)) (fun _ => ?_)
   refine Cov.exit rfl ?_;refine Cov.seq ?_;refine Cov.region rfl ?_;refine Cov.q .ro (.move rfl) rfl ?_;refine Cov.q .ro (.assign rfl) rfl ?_;refine Cov.q .ro (.assign rfl) rfl ?_;refine Cov.region_end ?_
   cases r380
   refine Cov.pullS 1 rfl [_, _] rfl ?_;refine Cov.drop 0 1 _ [_] rfl rfl ?_
   refine Cov.retS (c := ⟨40, none⟩) (.inr ⟨_, rfl⟩) [.tmp 6, .tmp 7] [_, _] rfl Try.func40 Try.results40 ⟨RV.tmp rfl, RV.tmp rfl, trivial⟩ (fun _ h => List.mem_cons_of_mem _ h) ⟨a369, k370, cs371, rfl, rfl, rfl, o372⟩
  | cons x387 xs388 =>
   have r386 : ref19_First_B2 x0 x1 x2 (ref19_First_L2 x0 x1 x2 xs388 (i365 + 1)) x387 i365 v368 v374 = some r := r380; clear r380; unfold ref19_First_B2 at r386; try dsimp only at r386
   refine Cov.seq ?_;refine Cov.region rfl ?_;refine Cov.q .ro (.lss rfl rfl) rfl ?_;refine Cov.region_end ?_;refine Cov.seq ?_
   refine Cov.cond_dec rfl (fun _ => ?_) (fun c => absurd (drop_lt g367) c)
   refine Cov.skip ?_;refine Cov.seq ?_;refine Cov.block ?_;refine Cov.seq ?_;refine Cov.region rfl ?_;refine Cov.q .ro (.move rfl) rfl ?_
   obtain ⟨c389, p390, h391⟩ := SlR.get s0 (drop_idx g367)
   obtain ⟨a392, k393, rfl, s394⟩ := h391
   refine Cov.q .ro (.idxR s0 rfl rfl (drop_idx g367) sl55 ty39.sz) rfl ?_;refine Cov.q .ro (.load_rp p390 List.mem_cons_self rfl ty39 rfl) rfl ?_;refine Cov.q .ro (.assign rfl) rfl ?_;refine Cov.q .ro (.assign rfl) rfl ?_;refine Cov.region_end ?_;refine Cov.seq ?_;refine Cov.region rfl ?_;refine Cov.q .ro (.move rfl) rfl ?_;refine Cov.q .ro (.len_sl rfl rfl sl39) rfl ?_
   refine Cov.q .ro (.move rfl) rfl ?_;refine Cov.region_end ?_;refine Cov.block ?_;refine Cov.pullS 1 rfl [_, _] rfl ?_
   refine Cov.loop2 (α := Nat × List Int × List Int × Option Addr × Nat × List Value) (fun y => [(8, .slice y.2.2.2.1 y.2.2.1.length y.2.2.2.2.1), (31, .int .i64 (y.1 : Int))]) [(9, _), (24, _), (0, _), (1, _), (2, _), (22, _), (23, _), (10, _), (29, _), (30, _)] (fun y => []) (fun y => []) [] (fun y => [.s (.slice y.2.2.2.1 y.2.2.1.length y.2.2.2.2.1) 3 1 y.2.2.1.length y.2.2.2.2.2]) [_] (fun y => OL (Rep.int .i64) G y.2.2.2.2.2 y.2.2.1 ∧ List.drop y.1 x387 = y.2.1 ∧ ref19_First_L1 (ref19_First_L2 x0 x1 x2 xs388 (i365 + 1)) (i365 : Int) x0 x1 x2 v368 y.2.1 y.2.2.1 = some r) (fun y => y.2.1.length) (0, x387, v374, a375, k376, cs377) ⟨o378, rfl, r386⟩ ⟨rfl, rfl, rfl, rfl, rfl, rfl, rfl, rfl, rfl, rfl, rfl, rfl, trivial⟩ rfl rfl rfl (fun y hI hb481 => ?_)
   obtain ⟨i471, w472, v474, a475, k476, cs477⟩ := y
   obtain ⟨o478, g473, r480⟩ := hI
   try dsimp only at o478 g473 r480
   refine Cov.prune [(8, .slice a475 v474.length k476), (31, .int .i64 (i471 : Int)), (9, _), (24, _), (0, _), (1, _), (2, _), (22, _), (23, _), (10, _), (29, _), (30, _)] ⟨rfl, rfl, rfl, rfl, rfl, rfl, rfl, rfl, rfl, rfl, rfl, rfl, trivial⟩ ?_;refine Cov.same (bl' := []) (sl' := [.s (.slice a475 v474.length k476) 3 1 v474.length cs477, _]) (Fs' := G :: Fs) rfl rfl rfl ?_
   cases w472 with
   | nil =>
    rw [ref19_First_L1] at r480; try dsimp only at r480
    refine Cov.seq ?_;refine Cov.region rfl ?_;refine Cov.q .ro (.lss rfl rfl) rfl ?_;refine Cov.region_end ?_;refine Cov.seq ?_
    refine Cov.cond_dec rfl (fun c => absurd c (drop_nil g473)) (fun _ => ?_)
    refine Cov.exit rfl ?_;refine Cov.inBlock ?_;refine Cov.region rfl ?_;refine Cov.q .ro (.addw rfl rfl) rfl ?_;refine Cov.q .ro (.move rfl) rfl ?_;refine Cov.region_end ?_;refine Cov.pullS 1 rfl [_, _] rfl ?_
    refine Cov.prune _ ?_ (Cov.same rfl rfl rfl (hb381 ((i365 + 1), xs388, v368, a369, k370, cs371, v474, a475, k476, cs477) ⟨o372, o478, (drop_succ g367), r480⟩ (Nat.lt_succ_self _)))
    exact ⟨rfl, rfl, (congrArg (fun z => some (Value.int .i64 z)) (idx_wrap (SlR.len s0) g367)), rfl, rfl, rfl, rfl, rfl, trivial⟩
   | cons x491 xs492 =>
    have r490 : ref19_First_B1 (ref19_First_L2 x0 x1 x2 xs388 (i365 + 1)) (i365 : Int) x0 x1 x2 v368 (ref19_First_L1 (ref19_First_L2 x0 x1 x2 xs388 (i365 + 1)) (i365 : Int) x0 x1 x2 v368 xs492) x491 v474 = some r := r480; clear r480; unfold ref19_First_B1 at r490; try dsimp only at r490
    refine Cov.seq ?_;refine Cov.region rfl ?_;refine Cov.q .ro (.lss rfl rfl) rfl ?_;refine Cov.region_end ?_;refine Cov.seq ?_
    refine Cov.cond_dec rfl (fun _ => ?_) (fun c => absurd (drop_lt g473) c)
    refine Cov.skip ?_;refine Cov.seq ?_;refine Cov.block ?_;refine Cov.seq ?_;refine Cov.region rfl ?_
    obtain ⟨c493, p494, h495⟩ := SlR.get s394 (drop_idx g473)
    obtain rfl := h495
    refine Cov.q .ro (.idxR s394 rfl rfl (drop_idx g473) sl39 ty3.sz) rfl ?_;refine Cov.q .ro (.load_rp p494 List.mem_cons_self rfl ty3 rfl) rfl ?_;refine Cov.q .ro (.assign rfl) rfl ?_;refine Cov.region_end ?_;refine Cov.seq ?_;refine Cov.seq ?_;refine Cov.region rfl ?_;refine Cov.q .ro (.move rfl) rfl ?_;refine Cov.q .ro (.move rfl) rfl ?_
    obtain ⟨u496, hu496, r497⟩ := bind_some r490; clear r490
    obtain ⟨c498, p499, h500⟩ := OL.get o478 hu496
    obtain rfl := h500
    refine Cov.q .ro (.idxO 0 rfl rfl rfl hu496 sl39 ty3.sz) rfl ?_;refine Cov.q .ro (.loadO 0 0 rfl hu496 p499 rfl (.inl ⟨rfl, rfl⟩) ty3 rfl) rfl ?_;refine Cov.q .ro (.move rfl) rfl ?_;refine Cov.q .ro (.eql rfl rfl) rfl ?_;refine Cov.region_end ?_
    refine Cov.cond_dec rfl (fun c501 => ?_) (fun c501 => ?_)
    ·have r502 := ifT r497 c501; clear r497
     refine Cov.exit rfl ?_;refine Cov.region rfl ?_;refine Cov.q .ro (.addw rfl rfl) rfl ?_;refine Cov.q .ro (.move rfl) rfl ?_;refine Cov.region_end ?_
     refine Cov.prune _ ?_ (Cov.same rfl rfl rfl (hb481 ((i471 + 1), xs492, v474, a475, k476, cs477) ⟨o478, (drop_succ g473), r502⟩ (Nat.lt_succ_self _)))
     exact ⟨rfl, (congrArg (fun z => some (Value.int .i64 z)) (idx_wrap (SlR.len s394) g473)), rfl, rfl, rfl, rfl, rfl, rfl, rfl, rfl, rfl, rfl, trivial⟩
    ·have r503 := ifF r497 c501; clear r497
     refine Cov.skip ?_;refine Cov.seq ?_;refine Cov.region rfl ?_;refine Cov.q .ro (.move rfl) rfl ?_;refine Cov.q .ro (.move rfl) rfl ?_
     obtain ⟨u504, hu504, r505⟩ := bind_some r503; clear r503
     obtain ⟨c506, p507, h508⟩ := OL.get o478 hu504
     obtain rfl := h508
     refine Cov.q .ro (.idxO 0 rfl rfl rfl hu504 sl39 ty3.sz) rfl ?_;refine Cov.q .ro (.loadO 0 0 rfl hu504 p507 rfl (.inl ⟨rfl, rfl⟩) ty3 rfl) rfl ?_;refine Cov.q .ro (.addw rfl rfl) rfl ?_
     obtain ⟨u509, hu509, r510⟩ := bind_some r505; clear r505
     obtain ⟨c511, p512, h513⟩ := OL.get o478 hu509
     obtain rfl := h513
     refine Cov.q .ro (.idxO 0 rfl rfl rfl hu509 sl39 ty3.sz) rfl ?_
     obtain ⟨u514, hu514, r515⟩ := bind_some r510; clear r510
     refine Cov.storeR 0 0 (Q := (Rep.int .i64)) .ro rfl rfl o478 hu514 rfl (.inl ⟨rfl, rfl⟩) rfl ty3 p512 ((Rep.intI .i64 (w64 (u504 + 1))) :) rfl rfl (fun cs516 hlcs516 o517 => ?_)
     refine Cov.reval 8 hlcs516 rfl ?_;refine Cov.reval 35 hlcs516 rfl ?_;refine Cov.reval 41 hlcs516 rfl ?_;refine Cov.region_end ?_;refine Cov.prune [(8, _), (31, _), (9, _), (24, _), (0, _), (1, _), (2, _), (22, _), (23, _), (10, _), (29, _), (30, _), (13, _)] ⟨rfl, rfl, rfl, rfl, rfl, rfl, rfl, rfl, rfl, rfl, rfl, rfl, rfl, trivial⟩ ?_;refine Cov.seq ?_;refine Cov.seq ?_;refine Cov.region rfl ?_;refine Cov.q .ro (.move rfl) rfl ?_
     refine Cov.q .ro (.move rfl) rfl ?_;refine Cov.q .ro (.addw rfl rfl) rfl ?_
     obtain ⟨u519, hu519, r520⟩ := bind_some r515; clear r515
     obtain ⟨a521, k522, h523, s524⟩ := SlR.sub s0 hu519
     refine Cov.q .ro (.sliceR s0 rfl hu519 sl55 ty39.sz (fun h => .yes' rfl h) (fun _ => .no) h523) rfl ?_;refine Cov.q .ro (.move rfl) rfl ?_;refine Cov.q .ro (.move rfl) rfl ?_;refine Cov.q .ro (.move rfl) rfl ?_
     obtain ⟨u525, hu525, r526⟩ := bind_some r520; clear r520
     refine Cov.callB (Q := fun v bo so => v = .bool u525 ∧ bo = [] ∧ so = []) (b1 := []) (b2 := []) (s1 := []) (sB := [_]) (s2 := [_]) [_, _, _, _] [] .ro rfl rfl Try.call61 rfl rfl (fun Fs' G' hle hB hm => (ref19_Possible_c (G := G') hm (SlR.mono hle s524) (SlR.rd o517 rfl hle (hB _ (List.mem_of_getElem? (i := 0) rfl))) hu525)) rfl (fun v528 bo so h527 => ?_)
     obtain ⟨rfl, rfl, rfl⟩ := h527
     refine Cov.same (bl' := []) (sl' := [_, _]) rfl rfl rfl ?_;refine Cov.region_end ?_
     refine Cov.cond rfl (fun c529 => ?_) (fun c529 => ?_)
     ·have r530 := ifT r526 c529; clear r526
      refine Cov.seq ?_;refine Cov.region rfl ?_;refine Cov.q .ro (.move rfl) rfl ?_;refine Cov.q .ro (.move rfl) rfl ?_
      refine Cov.lit [_] [(0, _)] .ro sl39 ty3 rfl rfl rfl rfl rfl rfl (fun b531 hb531 => ?_)
      have o532 : OL (Rep.int .i64) G [.int .i64 x491] ([x491] : List Int) := ((OL.cons rfl (Rep.intI .i64 x491) (OL.nil (Rp' := (Rep.int .i64)))) :)
      refine Cov.reval 57 (n' := ([x491] : List Int).length) rfl rfl ?_
      obtain ⟨u538, hu538, r539⟩ := bind_some r530; clear r530
      refine Cov.appO (Q := (Rep.int .i64)) 1 .ro sl39 ty3 rfl rfl rfl rfl rfl rfl o372 o532 rfl rfl rfl B0 hu538 rfl (fun a534 k535 cs536 o537 => ?_)
      refine Cov.q .ro (.assign rfl) rfl ?_;refine Cov.region_end ?_;refine Cov.prune [(8, _), (9, _), (24, _), (0, _), (1, _), (2, _), (22, _), (23, _)] ⟨rfl, rfl, rfl, rfl, rfl, rfl, rfl, rfl, trivial⟩ ?_;refine Cov.exit rfl ?_;refine Cov.inBlock ?_;refine Cov.region rfl ?_;refine Cov.q .ro (.addw rfl rfl) rfl ?_;refine Cov.q .ro (.move rfl) rfl ?_;refine Cov.region_end ?_
      refine Cov.pullS 1 rfl [_, _] rfl ?_
      refine Cov.prune _ ?_ (Cov.same rfl rfl rfl (hb381 ((i365 + 1), xs388, u538, a534, k535, cs536, u514, a475, k476, cs516) ⟨o537, o517, (drop_succ g367), r539⟩ (Nat.lt_succ_self _)))
      exact ⟨rfl, rfl, (congrArg (fun z => some (Value.int .i64 z)) (idx_wrap (SlR.len s0) g367)), rfl, rfl, rfl, rfl, rfl, trivial⟩
     ·have r541 := ifBF r526 c529; clear r526
      refine Cov.skip ?_;refine Cov.region rfl ?_;refine Cov.q .ro (.move rfl) rfl ?_;refine Cov.q .ro (.move rfl) rfl ?_
      obtain ⟨u542, hu542, r543⟩ := bind_some r541; clear r541
      obtain ⟨c544, p545, h546⟩ := OL.get o517 hu542
      obtain rfl := h546
      refine Cov.q .ro (.idxO 0 rfl rfl rfl hu542 sl39 ty3.sz) rfl ?_;refine Cov.q .ro (.loadO 0 0 rfl hu542 p545 rfl (.inl ⟨rfl, rfl⟩) ty3 rfl) rfl ?_;refine Cov.q .ro (.subw rfl rfl) rfl ?_
      obtain ⟨u547, hu547, r548⟩ := bind_some r543; clear r543
      obtain ⟨c549, p550, h551⟩ := OL.get o517 hu547
      obtain rfl := h551
      refine Cov.q .ro (.idxO 0 rfl rfl rfl hu547 sl39 ty3.sz) rfl ?_
      obtain ⟨u552, hu552, r553⟩ := bind_some r548; clear r548
      refine Cov.storeR 0 0 (Q := (Rep.int .i64)) .ro rfl rfl o517 hu552 rfl (.inl ⟨rfl, rfl⟩) rfl ty3 p550 ((Rep.intI .i64 (w64 (u542 - 1))) :) rfl rfl (fun cs554 hlcs554 o555 => ?_)
      refine Cov.reval 8 hlcs554 rfl ?_;refine Cov.reval 53 hlcs554 rfl ?_;refine Cov.reval 59 hlcs554 rfl ?_;refine Cov.region_end ?_;refine Cov.prune [(8, _), (31, _), (9, _), (24, _), (0, _), (1, _), (2, _), (22, _), (23, _), (10, _), (29, _), (30, _)] ⟨rfl, rfl, rfl, rfl, rfl, rfl, rfl, rfl, rfl, rfl, rfl, rfl, trivial⟩ ?_;refine Cov.inBlock ?_;refine Cov.region rfl ?_;refine Cov.q .ro (.addw rfl rfl) rfl ?_;refine Cov.q .ro (.move rfl) rfl ?_
      refine Cov.region_end ?_
      refine Cov.prune _ ?_ (Cov.same rfl rfl rfl (hb481 ((i471 + 1), xs492, u552, a475, k476, cs554) ⟨o555, (drop_succ g473), r553⟩ (Nat.lt_succ_self _)))
      exact ⟨rfl, (congrArg (fun z => some (Value.int .i64 z)) (idx_wrap (SlR.len s394) g473)), rfl, rfl, rfl, rfl, rfl, rfl, rfl, rfl, rfl, rfl, trivial⟩
end Go.Proofs.Ytmfppphlhgneeaa
end
