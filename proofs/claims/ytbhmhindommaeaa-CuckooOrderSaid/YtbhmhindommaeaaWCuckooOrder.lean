/- The walks. Printed by wip/lift/drive.py. -/
import Derived.Test.YtbhmhindommaeaaW3
namespace Go.Proofs.Ytbhmhindommaeaa
open Go.RowKit
set_option linter.unusedSimpArgs false
set_option linter.unusedVariables false
set_option synthInstance.maxSize 2000
set_option synthInstance.maxHeartbeats 400000

set_option maxHeartbeats 4000000 in
set_option maxRecDepth 100000 in
theorem law19_CuckooOrder_c {Fs : List Hp} {G : Hp} {a0 : Option Addr} {k0 : Nat} {x0 : List Int} {r : Bool} (hG : G ∈ Fs) (s0 : SlR (Rep.int .i64) G a0 k0 x0) (h : law19_CuckooOrder x0 = some r) : RetS Try.prog 5 #[.slice a0 x0.length k0] Fs [] [] (fun v bo so => v = .bool r ∧ bo = [] ∧ so = []) := by
  unfold law19_CuckooOrder at h
  try dsimp only at h
  refine RetS.of (vs := [_]) Try.func5 rfl Try.ntmps5 [(0, _)] ⟨rfl, trivial⟩ rfl hG fun w0 S0 hS0 B0 => ?_
  refine Cov.seq ?_
  refine Cov.region rfl ?_
  refine Cov.q .ro (.assign rfl) rfl ?_
  refine Cov.region_end ?_
  refine Cov.seq ?_
  refine Cov.seq ?_
  refine Cov.region rfl ?_
  obtain ⟨u1, hu1, r2⟩ := bind_some h; clear h
  refine Cov.callS (b1 := []) (b2 := []) (s1 := []) [] [] .ro rfl rfl Try.call9 rfl rfl (law19_sane_c (G := G) List.mem_cons_self  hu1) rfl (fun v4 bo so h3 => ?_)
  obtain ⟨rfl, rfl, rfl⟩ := h3
  refine Cov.same (bl' := []) (sl' := []) rfl rfl rfl ?_
  refine Cov.q .ro (.not rfl) rfl ?_
  refine Cov.region_end ?_
  refine Cov.cond rfl (fun c5 => ?_) (fun c5 => ?_)
  · have r6 := ifT r2 c5; clear r2
    refine Cov.seq ?_
    refine Cov.region rfl ?_
    refine Cov.q .ro (.assign rfl) rfl ?_
    refine Cov.region_end ?_
    cases r6
    refine Cov.retS (c := ⟨5, none⟩) (.inr ⟨_, rfl⟩) [.tmp 2] [_] rfl Try.func5 Try.results5 ⟨RV.tmp rfl, trivial⟩ (fun _ h => List.mem_cons_of_mem _ h) ⟨rfl, rfl, rfl⟩
  · have r7 := ifBF r2 c5; clear r2
    refine Cov.skip ?_
    refine Cov.seq ?_
    refine Cov.seq ?_
    refine Cov.region rfl ?_
    refine Cov.q .ro (.move rfl) rfl ?_
    obtain ⟨u8, hu8, r9⟩ := bind_some r7; clear r7
    refine Cov.callS (b1 := []) (b2 := []) (s1 := []) [_] [] .ro rfl rfl Try.call10 rfl rfl (make_Few_c (G := G) List.mem_cons_self s0 hu8) rfl (fun v11 bo so h10 => ?_)
    obtain ⟨rfl, rfl, rfl⟩ := h10
    refine Cov.same (bl' := []) (sl' := []) rfl rfl rfl ?_
    refine Cov.q .ro (.not rfl) rfl ?_
    refine Cov.region_end ?_
    refine Cov.cond rfl (fun c12 => ?_) (fun c12 => ?_)
    · have r13 := ifT r9 c12; clear r9
      refine Cov.seq ?_
      refine Cov.region rfl ?_
      refine Cov.q .ro (.assign rfl) rfl ?_
      refine Cov.region_end ?_
      cases r13
      refine Cov.retS (c := ⟨5, none⟩) (.inr ⟨_, rfl⟩) [.tmp 2] [_] rfl Try.func5 Try.results5 ⟨RV.tmp rfl, trivial⟩ (fun _ h => List.mem_cons_of_mem _ h) ⟨rfl, rfl, rfl⟩
    · have r14 := ifBF r9 c12; clear r9
      refine Cov.skip ?_
      refine Cov.seq ?_
      refine Cov.region rfl ?_
      refine Cov.q .ro (.move rfl) rfl ?_
      obtain ⟨u15, hu15, r16⟩ := bind_some r14; clear r14
      refine Cov.callS (b1 := []) (b2 := []) (s1 := []) [_] [] .ro rfl rfl Try.call12 rfl rfl (make_New_c (G := G) List.mem_cons_self s0 hu15) rfl (fun v18 bo so h17 => ?_)
      obtain ⟨a20, k21, b19, rfl, rfl, rfl, s22⟩ := h17
      refine Cov.same (bl' := [_]) (sl' := []) rfl rfl rfl ?_
      refine Cov.q .ro (.assign rfl) rfl ?_
      refine Cov.region_end ?_
      refine Cov.seq ?_
      refine Cov.region rfl ?_
      refine Cov.q .ro (.move rfl) rfl ?_
      obtain ⟨u23, hu23, r24⟩ := bind_some r16; clear r16
      refine Cov.callW (b1 := [_]) (b2 := []) (s1 := []) [_] [] .ro rfl rfl Try.call11 rfl rfl (make_Hashing_c (G := G) List.mem_cons_self s22 hu23) rfl B0 (fun v26 bo so G27 e28 B29 h25 => ?_)
      obtain ⟨a31, k32, a34, k35, rfl, rfl, rfl, s33, s36⟩ := h25
      refine Cov.same (bl' := [_]) (sl' := []) rfl rfl rfl ?_
      refine Cov.alloc .ro ty25 rfl (fun b37 hb37 => ?_)
      refine Cov.store 0 [_, _] [_, _] .ro rfl rfl rfl ty25 rfl rfl rfl rfl ?_
      refine Cov.region_end ?_
      refine Cov.seq ?_
      refine Cov.region rfl ?_
      refine Cov.q .ro (.move rfl) rfl ?_
      refine Cov.q .ro (.fieldAddr 0 rfl fl25_0 ty3.sz rfl) rfl ?_
      refine Cov.q .ro (.load_own 0 rfl rfl ty3 rfl) rfl ?_
      obtain ⟨u38, hu38, r39⟩ := bind_some r24; clear r24
      refine Cov.pull 1 rfl [_, _] rfl ?_
      refine Cov.callS (b1 := [_]) (b2 := [_]) (s1 := []) [_, _] [] .ro rfl rfl Try.call16 rfl rfl (law19_items_c (G := G27) List.mem_cons_self s36 hu38) rfl (fun v41 bo so h40 => ?_)
      obtain ⟨a47, k48, a43, k44, cs45, rfl, rfl, rfl, s49, o46⟩ := h40
      refine Cov.same (bl' := [_, _]) (sl' := [_]) rfl rfl rfl ?_
      refine Cov.q .ro (.assign rfl) rfl ?_
      refine Cov.region_end ?_
      refine Cov.prune [(3, _), (4, _), (5, _)] ⟨rfl, rfl, rfl, trivial⟩ ?_
      refine Cov.seq ?_
      refine Cov.region rfl ?_
      refine Cov.q .ro (.assign rfl) rfl ?_
      refine Cov.region_end ?_
      refine Cov.seq ?_
      refine Cov.seq ?_
      refine Cov.region rfl ?_
      refine Cov.q .ro (.move rfl) rfl ?_
      refine Cov.q .ro (.move rfl) rfl ?_
      refine Cov.q .ro (.len_sl rfl rfl sl22) rfl ?_
      obtain ⟨u50, hu50, r51⟩ := bind_some r39; clear r39
      refine Cov.callW (b1 := [_]) (b2 := [_]) (s1 := []) [_, _] [] .ro rfl rfl Try.call18 rfl rfl (make_Order_c (G := G27) List.mem_cons_self s49 hu50) rfl B29 (fun v53 bo so G54 e55 B56 h52 => ?_)
      obtain ⟨a63, k64, a59, k60, cs61, rfl, rfl, rfl, s65, o62⟩ := h52
      refine Cov.same (bl' := [_, _]) (sl' := [_, _]) rfl rfl rfl ?_
      refine Cov.q .ro (.len_sl rfl rfl sl22) rfl ?_
      refine Cov.q .ro (.move rfl) rfl ?_
      refine Cov.region_end ?_
      refine Cov.cutB (β := List Int × Option Addr × Nat × List Value × Int × Int) (fun y => [(6, .slice y.2.1 y.1.length y.2.2.1)]) [(4, _), (5, _)] (fun y => G54 :: Fs) (fun y => [(b19, .cells #[.slice a63 u50.2.1.length k64, .int .i64 y.2.2.2.2.1] 64 (0, 0)), (b37, .cells #[.int .i64 y.2.2.2.2.2, .slice a31 u23.1.2.length k32] 25 (0, 0))]) [] (fun y => [.s (.slice y.2.1 y.1.length y.2.2.1) 3 1 y.1.length y.2.2.2.1]) [_, _] (fun y => OL (Rep.int .i64) G54 y.2.2.2.1 y.1 ∧ (law19_CuckooOrder_J3 u23.1.2 u38.1) y.1 y.2.2.2.2.1 y.2.2.2.2.2 = some r) ⟨rfl, rfl, trivial⟩ [] rfl [0, 1] rfl ?_ ?_
      · intro y hI
        obtain ⟨v164, a165, k166, cs167, v170, v171⟩ := y
        obtain ⟨o168, r173⟩ := hI
        try dsimp only at o168 r173
        refine Cov.prune [(6, .slice a165 v164.length k166), (4, _), (5, _)] ⟨rfl, rfl, rfl, trivial⟩ ?_
        refine Cov.same (bl' := [(b19, .cells #[.slice a63 u50.2.1.length k64, .int .i64 v170] 64 (0, 0)), (b37, .cells #[.int .i64 v171, .slice a31 u23.1.2.length k32] 25 (0, 0))]) (sl' := [.s (.slice a165 v164.length k166) 3 1 v164.length cs167, _, _]) (Fs' := G54 :: Fs) rfl rfl rfl ?_
        unfold law19_CuckooOrder_J3 at r173
        try dsimp only at r173
        refine Cov.seq ?_
        refine Cov.region rfl ?_
        refine Cov.q .ro (.load_own_a 1 [_, _] rfl rfl ty25 rfl) rfl ?_
        refine Cov.q .ro (.move rfl) rfl ?_
        refine Cov.freezeR 2 rfl rfl (OL.mono e55 o46) [_, _] rfl B56 (fun G178 e179 B180 s181 => ?_)
        obtain ⟨u183, hu183, r184⟩ := bind_some r173; clear r173
        refine Cov.callW (b1 := []) (b2 := [_, _]) (s1 := []) [_, _] [] .ro rfl rfl Try.call17 rfl rfl (cuckoo_Assign_c (G := G178) List.mem_cons_self (SlR.mono (HpLe.trans e55 e179) s33) s181 hu183) rfl B180 (fun v186 bo so G187 e188 B189 h185 => ?_)
        obtain ⟨a191, k192, rfl, rfl, rfl, s193⟩ := h185
        refine Cov.same (bl' := [_, _]) (sl' := [_, _]) rfl rfl rfl ?_
        refine Cov.q .ro (.move rfl) rfl ?_
        refine Cov.q .ro (.extract rfl rfl) rfl ?_
        refine Cov.q .ro (.extract rfl rfl) rfl ?_
        refine Cov.alloc .ro ty43 rfl (fun b194 hb194 => ?_)
        refine Cov.store 0 [_] [_, _, _] .ro rfl rfl rfl ty43 rfl rfl rfl rfl ?_
        refine Cov.q .ro (.assign rfl) rfl ?_
        refine Cov.region_end ?_
        refine Cov.seq ?_
        refine Cov.region rfl ?_
        refine Cov.q .ro (.load_own_a 2 [_, _] rfl rfl ty25 rfl) rfl ?_
        refine Cov.q .ro (.move rfl) rfl ?_
        refine Cov.freezeR 0 rfl rfl (OL.mono (HpLe.trans e179 e188) o168) [_] rfl B189 (fun G195 e196 B197 s198 => ?_)
        obtain ⟨u200, hu200, r201⟩ := bind_some r184; clear r184
        refine Cov.callW (b1 := []) (b2 := [_, _, _]) (s1 := []) [_, _] [] .ro rfl rfl Try.call17 rfl rfl (cuckoo_Assign_c (G := G195) List.mem_cons_self (SlR.mono (HpLe.trans (HpLe.trans (HpLe.trans e55 e179) e188) e196) s33) s198 hu200) rfl B197 (fun v203 bo so G204 e205 B206 h202 => ?_)
        obtain ⟨a208, k209, rfl, rfl, rfl, s210⟩ := h202
        refine Cov.same (bl' := [_, _, _]) (sl' := [_]) rfl rfl rfl ?_
        refine Cov.q .ro (.move rfl) rfl ?_
        refine Cov.q .ro (.extract rfl rfl) rfl ?_
        refine Cov.q .ro (.extract rfl rfl) rfl ?_
        refine Cov.alloc .ro ty43 rfl (fun b211 hb211 => ?_)
        refine Cov.store 0 [_] [_, _, _, _] .ro rfl rfl rfl ty43 rfl rfl rfl rfl ?_
        refine Cov.q .ro (.assign rfl) rfl ?_
        refine Cov.region_end ?_
        refine Cov.seq ?_
        refine Cov.seq ?_
        refine Cov.region rfl ?_
        refine Cov.q .ro (.move rfl) rfl ?_
        refine Cov.q .ro (.move rfl) rfl ?_
        refine Cov.q .ro (.neq rfl rfl) rfl ?_
        refine Cov.region_end ?_
        refine Cov.prune [(6, _), (4, _), (5, _), (9, _), (10, _), (11, _), (59, _)] ⟨rfl, rfl, rfl, rfl, rfl, rfl, rfl, trivial⟩ ?_
        refine Cov.cond_dec rfl (fun c212 => ?_) (fun c212 => ?_)
        · have r213 := ifT r201 c212; clear r201
          refine Cov.seq ?_
          refine Cov.region rfl ?_
          refine Cov.q .ro (.assign rfl) rfl ?_
          refine Cov.region_end ?_
          cases r213
          refine Cov.drop 4 0 [] _ rfl rfl ?_
          refine Cov.drop 0 1 _ [] rfl rfl ?_
          refine Cov.retS (c := ⟨5, none⟩) (.inr ⟨_, rfl⟩) [.tmp 2] [_] rfl Try.func5 Try.results5 ⟨RV.tmp rfl, trivial⟩ (fun _ h => List.mem_cons_of_mem _ h) ⟨rfl, rfl, rfl⟩
        · have r214 := ifF r201 c212; clear r201
          refine Cov.skip ?_
          refine Cov.seq ?_
          refine Cov.seq ?_
          refine Cov.region rfl ?_
          refine Cov.q .ro (.move rfl) rfl ?_
          refine Cov.q .ro (.neq rfl rfl) rfl ?_
          refine Cov.region_end ?_
          refine Cov.cond_dec rfl (fun c215 => ?_) (fun c215 => ?_)
          · have r216 := ifT r214 c215; clear r214
            refine Cov.seq ?_
            refine Cov.region rfl ?_
            refine Cov.q .ro (.assign rfl) rfl ?_
            refine Cov.region_end ?_
            cases r216
            refine Cov.drop 4 0 [] _ rfl rfl ?_
            refine Cov.drop 0 1 _ [] rfl rfl ?_
            refine Cov.retS (c := ⟨5, none⟩) (.inr ⟨_, rfl⟩) [.tmp 2] [_] rfl Try.func5 Try.results5 ⟨RV.tmp rfl, trivial⟩ (fun _ h => List.mem_cons_of_mem _ h) ⟨rfl, rfl, rfl⟩
          · have r217 := ifF r214 c215; clear r214
            refine Cov.skip ?_
            refine Cov.seq ?_
            refine Cov.region rfl ?_
            refine Cov.q .ro (.assign rfl) rfl ?_
            refine Cov.region_end ?_
            refine Cov.seq ?_
            refine Cov.seq ?_
            refine Cov.region rfl ?_
            refine Cov.q .ro (.fieldAddr 0 rfl fl43_0 ty22.sz rfl) rfl ?_
            refine Cov.q .ro (.load_own 1 rfl rfl ty22 rfl) rfl ?_
            refine Cov.q .ro (.len_sl rfl rfl sl22) rfl ?_
            refine Cov.q .ro (.move rfl) rfl ?_
            refine Cov.region_end ?_
            refine Cov.cutB (β := Int × Int × Int) (fun y => [(13, .int .i64 y.1)]) [(6, _), (4, _), (5, _), (11, _)] (fun y => G204 :: Fs) (fun y => [(b19, .cells #[.slice a63 u50.2.1.length k64, .int .i64 y.2.1] 64 (0, 0)), (b37, .cells #[.int .i64 y.2.2, .slice a31 u23.1.2.length k32] 25 (0, 0))]) [_, _] (fun y => []) [_] (fun y => (law19_CuckooOrder_J1 v164 u38.1 u23.1.2 u200.1) y.1 y.2.1 y.2.2 = some r) ⟨rfl, rfl, rfl, rfl, trivial⟩ [0, 1] rfl [0] rfl ?_ ?_
            · intro y hI
              obtain ⟨v260, v261, v262⟩ := y
              have r264 := hI; clear hI
              try dsimp only at r264
              refine Cov.prune [(13, .int .i64 v260), (6, _), (4, _), (5, _), (11, _)] ⟨rfl, rfl, rfl, rfl, rfl, trivial⟩ ?_
              refine Cov.same (bl' := [(b19, .cells #[.slice a63 u50.2.1.length k64, .int .i64 v261] 64 (0, 0)), (b37, .cells #[.int .i64 v262, .slice a31 u23.1.2.length k32] 25 (0, 0)), _, _]) (sl' := [_]) (Fs' := G204 :: Fs) rfl rfl rfl ?_
              unfold law19_CuckooOrder_J1 at r264
              try dsimp only at r264
              refine Cov.seq ?_
              refine Cov.region rfl ?_
              refine Cov.q .ro (.move rfl) rfl ?_
              refine Cov.q .ro (.move rfl) rfl ?_
              refine Cov.q .ro (.len_sl rfl rfl sl22) rfl ?_
              refine Cov.q .ro (.eql rfl rfl) rfl ?_
              refine Cov.q .ro (.move rfl) rfl ?_
              obtain ⟨u278, h279, r280⟩ := bind_some r264; clear r264
              refine Cov.cutR 5 (β := Unit) (fun y => [(86, .bool u278)]) [(4, _), (11, _)] (fun y => G204 :: Fs) (fun y => []) [_, _, _, _] (fun y => []) [_] (fun y => True) ⟨rfl, rfl, trivial⟩ [0, 1, 2, 3] rfl [0] rfl ?_ ?_
              · rintro _ _
                refine Cov.prune [(86, .bool u278), (4, _), (11, _)] ⟨rfl, rfl, rfl, trivial⟩ ?_
                refine Cov.same (bl' := [_, _, _, _]) (sl' := [_]) (Fs' := G204 :: Fs) rfl rfl rfl ?_
                refine Cov.q .ro (.move rfl) rfl ?_
                refine Cov.cutR 7 (β := Unit) (fun y => [(94, .bool (decide ((u278 = true) ∧ ((u200.1.length : Int) = v262))))]) [] (fun y => G204 :: Fs) (fun y => []) [_, _, _, _] (fun y => []) [_] (fun y => True) trivial [0, 1, 2, 3] rfl [0] rfl ?_ ?_
                · rintro _ _
                  refine Cov.prune [(94, .bool (decide ((u278 = true) ∧ ((u200.1.length : Int) = v262))))] ⟨rfl, trivial⟩ ?_
                  refine Cov.same (bl' := [_, _, _, _]) (sl' := [_]) (Fs' := G204 :: Fs) rfl rfl rfl ?_
                  refine Cov.q .ro (.assign rfl) rfl ?_
                  refine Cov.region_end ?_
                  cases r280
                  refine Cov.drop 4 0 [] _ rfl rfl ?_
                  refine Cov.drop 0 1 _ [] rfl rfl ?_
                  refine Cov.retS (c := ⟨5, none⟩) (.inr ⟨_, rfl⟩) [.tmp 2] [_] rfl Try.func5 Try.results5 ⟨RV.tmp rfl, trivial⟩ (fun _ h => List.mem_cons_of_mem _ h) ⟨rfl, rfl, rfl⟩
                · intro hb284
                  refine Cov.split_b 87 rfl (fun c283 => ?_) (fun c283 => ?_)
                  · refine Cov.g_on rfl ?_
                    refine Cov.q .ro (.fieldAddr 0 rfl fl43_0 ty22.sz rfl) rfl ?_
                    refine Cov.g_on rfl ?_
                    refine Cov.q .ro (.load_own 2 rfl rfl ty22 rfl) rfl ?_
                    refine Cov.g_on rfl ?_
                    refine Cov.q .ro (.len_sl rfl rfl sl22) rfl ?_
                    refine Cov.g_on rfl ?_
                    refine Cov.q .ro (.fieldAddr 0 rfl fl25_0 ty3.sz rfl) rfl ?_
                    refine Cov.g_on rfl ?_
                    refine Cov.q .ro (.load_own 1 rfl rfl ty3 rfl) rfl ?_
                    refine Cov.g_on rfl ?_
                    refine Cov.q .ro (.eql rfl rfl) rfl ?_
                    refine Cov.q .ro (.pick_t rfl rfl) rfl ?_
                    refine Cov.prune _ ?_ (Cov.same rfl rfl rfl (hb284 () trivial))
                    exact ⟨dand_t c283, trivial⟩
                  · refine Cov.g_off rfl rfl rfl ?_
                    refine Cov.g_off rfl rfl rfl ?_
                    refine Cov.g_off rfl rfl rfl ?_
                    refine Cov.g_off rfl rfl rfl ?_
                    refine Cov.g_off rfl rfl rfl ?_
                    refine Cov.g_off rfl rfl rfl ?_
                    refine Cov.q .ro (.pick_f rfl rfl) rfl ?_
                    refine Cov.prune _ ?_ (Cov.same rfl rfl rfl (hb284 () trivial))
                    exact ⟨dand_f (bne_of c283), trivial⟩
              · intro hb277
                refine Cov.split 81 rfl (fun c276 => ?_) (fun c276 => ?_)
                · have r287 := ifT h279 c276
                  refine Cov.g_on rfl ?_
                  refine Cov.q .ro (.load_own_a 1 [_, _] rfl rfl ty25 rfl) rfl ?_
                  refine Cov.g_on rfl ?_
                  refine Cov.q .ro (.move rfl) rfl ?_
                  refine Cov.g_on rfl ?_
                  refine Cov.q .ro (.load_own_a 2 [_] rfl rfl ty43 rfl) rfl ?_
                  refine Cov.g_on rfl ?_
                  obtain ⟨u288, hu288, r289⟩ := bind_some r287; clear r287
                  refine Cov.callS (b1 := []) (b2 := [_, _, _, _]) (s1 := []) [_, _, _] [] .ro rfl rfl Try.call19 rfl rfl (cuckoo_Fits_c (G := G204) List.mem_cons_self (SlR.mono (HpLe.trans (HpLe.trans (HpLe.trans (HpLe.trans e55 e179) e188) e196) e205) s33) (SlR.mono e205 s198) s210 hu288) rfl (fun v291 bo so h290 => ?_)
                  obtain ⟨rfl, rfl, rfl⟩ := h290
                  refine Cov.same (bl' := [_, _, _, _]) (sl' := [_]) rfl rfl rfl ?_
                  refine Cov.q .ro (.pick_t rfl rfl) rfl ?_
                  refine Cov.prune _ ?_ (Cov.same rfl rfl rfl (hb277 () trivial))
                  exact ⟨sval r289, rfl, rfl, trivial⟩
                · have r292 := ifF h279 c276
                  refine Cov.g_off rfl rfl rfl ?_
                  refine Cov.g_off rfl rfl rfl ?_
                  refine Cov.g_off rfl rfl rfl ?_
                  refine Cov.g_off rfl rfl rfl ?_
                  refine Cov.q .ro (.pick_f rfl rfl) rfl ?_
                  refine Cov.prune _ ?_ (Cov.same rfl rfl rfl (hb277 () trivial))
                  exact ⟨sval r292, rfl, rfl, trivial⟩
            · intro hb293
              refine Cov.block ?_
              refine Cov.loop2 (α := Nat × List Int × Int) (fun y => [(13, .int .i64 y.2.2), (65, .int .i64 (y.1 : Int))]) [(6, _), (4, _), (5, _), (9, _), (11, _), (64, _)] (fun y => []) (fun y => []) [_, _, _, _] (fun y => []) [_] (fun y => List.drop y.1 u183.1 = y.2.1 ∧ law19_CuckooOrder_L2 (law19_CuckooOrder_J1 v164 u38.1 u23.1.2 u200.1) v170 v171 y.2.1 y.2.2 = some r) (fun y => y.2.1.length) (0, u183.1, 0) ⟨rfl, r217⟩ ⟨rfl, rfl, rfl, rfl, rfl, rfl, rfl, rfl, trivial⟩ rfl rfl rfl (fun y hI hb316 => ?_)
              obtain ⟨i311, w312, v314⟩ := y
              obtain ⟨g313, r315⟩ := hI
              try dsimp only at g313 r315
              refine Cov.prune [(13, .int .i64 v314), (65, .int .i64 (i311 : Int)), (6, _), (4, _), (5, _), (9, _), (11, _), (64, _)] ⟨rfl, rfl, rfl, rfl, rfl, rfl, rfl, rfl, trivial⟩ ?_
              refine Cov.same (bl' := [_, _, _, _]) (sl' := [_]) (Fs' := G204 :: Fs) rfl rfl rfl ?_
              cases w312 with
              | nil =>
                rw [law19_CuckooOrder_L2] at r315; try dsimp only at r315
                refine Cov.seq ?_
                refine Cov.region rfl ?_
                refine Cov.q .ro (.lss rfl rfl) rfl ?_
                refine Cov.region_end ?_
                refine Cov.seq ?_
                refine Cov.cond_dec rfl (fun c => absurd c (drop_nil g313)) (fun _ => ?_)
                refine Cov.exit rfl ?_
                refine Cov.pull 1 rfl [_, _, _, _] rfl ?_
                refine Cov.pull 1 rfl [_, _, _, _] rfl ?_
                refine Cov.pull 3 rfl [_, _, _, _] rfl ?_
                refine Cov.pull 3 rfl [_, _, _, _] rfl ?_
                refine Cov.prune _ ?_ (Cov.same rfl rfl rfl (hb293 (v314, v170, v171) r315))
                exact ⟨rfl, rfl, rfl, rfl, rfl, trivial⟩
              | cons x328 xs329 =>
                have r327 : law19_CuckooOrder_B2 (law19_CuckooOrder_J1 v164 u38.1 u23.1.2 u200.1) v170 v171 (law19_CuckooOrder_L2 (law19_CuckooOrder_J1 v164 u38.1 u23.1.2 u200.1) v170 v171 xs329) x328 v314 = some r := r315; clear r315; unfold law19_CuckooOrder_B2 at r327; try dsimp only at r327
                refine Cov.seq ?_
                refine Cov.region rfl ?_
                refine Cov.q .ro (.lss rfl rfl) rfl ?_
                refine Cov.region_end ?_
                refine Cov.seq ?_
                refine Cov.cond_dec rfl (fun _ => ?_) (fun c => absurd (drop_lt g313) c)
                refine Cov.skip ?_
                refine Cov.seq ?_
                refine Cov.block ?_
                refine Cov.seq ?_
                refine Cov.region rfl ?_
                refine Cov.q .ro (.move rfl) rfl ?_
                refine Cov.q .ro (.assign rfl) rfl ?_
                refine Cov.region_end ?_
                refine Cov.seq ?_
                refine Cov.region rfl ?_
                refine Cov.q .ro (.fieldAddr 0 rfl fl43_0 ty22.sz rfl) rfl ?_
                refine Cov.q .ro (.load_own 1 rfl rfl ty22 rfl) rfl ?_
                refine Cov.q .ro (.move rfl) rfl ?_
                obtain ⟨c330, p331, h332⟩ := SlR.get (SlR.mono (HpLe.trans e196 e205) s193) (drop_idx g313)
                obtain rfl := h332
                refine Cov.q .ro (.idxR (SlR.mono (HpLe.trans e196 e205) s193) rfl rfl (drop_idx g313) sl22 ty3.sz) rfl ?_
                refine Cov.q .ro (.load_rp p331 List.mem_cons_self rfl ty3 rfl) rfl ?_
                refine Cov.q .ro (.geq rfl rfl) rfl ?_
                refine Cov.region_end ?_
                refine Cov.cond_dec rfl (fun c333 => ?_) (fun c333 => ?_)
                · have r334 := ifT r327 c333; clear r327
                  refine Cov.region rfl ?_
                  refine Cov.q .ro (.move rfl) rfl ?_
                  refine Cov.q .ro (.addw rfl rfl) rfl ?_
                  refine Cov.q .ro (.assign rfl) rfl ?_
                  refine Cov.region_end ?_
                  refine Cov.inBlock ?_
                  refine Cov.region rfl ?_
                  refine Cov.q .ro (.addw rfl rfl) rfl ?_
                  refine Cov.q .ro (.move rfl) rfl ?_
                  refine Cov.region_end ?_
                  refine Cov.prune _ ?_ (Cov.same rfl rfl rfl (hb316 ((i311 + 1), xs329, (w64 (v314 + 1))) ⟨(drop_succ g313), r334⟩ (Nat.lt_succ_self _)))
                  exact ⟨rfl, (congrArg (fun z => some (Value.int .i64 z)) (idx_wrap (SlR.len (SlR.mono (HpLe.trans e196 e205) s193)) g313)), rfl, rfl, rfl, rfl, rfl, rfl, trivial⟩
                · have r335 := ifF r327 c333; clear r327
                  refine Cov.skip ?_
                  refine Cov.inBlock ?_
                  refine Cov.region rfl ?_
                  refine Cov.q .ro (.addw rfl rfl) rfl ?_
                  refine Cov.q .ro (.move rfl) rfl ?_
                  refine Cov.region_end ?_
                  refine Cov.prune _ ?_ (Cov.same rfl rfl rfl (hb316 ((i311 + 1), xs329, v314) ⟨(drop_succ g313), r335⟩ (Nat.lt_succ_self _)))
                  exact ⟨rfl, (congrArg (fun z => some (Value.int .i64 z)) (idx_wrap (SlR.len (SlR.mono (HpLe.trans e196 e205) s193)) g313)), rfl, rfl, rfl, rfl, rfl, rfl, trivial⟩
      · intro hb336
        refine Cov.block ?_
        refine Cov.own_nil 3 1 ?_
        refine Cov.loop2 (α := Nat × List Int × List Int × Option Addr × Nat × List Value) (fun y => [(6, .slice y.2.2.2.1 y.2.2.1.length y.2.2.2.2.1), (33, .int .i64 (y.1 : Int))]) [(4, _), (5, _), (31, _), (32, _)] (fun y => []) (fun y => []) [_, _] (fun y => [.s (.slice y.2.2.2.1 y.2.2.1.length y.2.2.2.2.1) 3 1 y.2.2.1.length y.2.2.2.2.2]) [_, _] (fun y => OL (Rep.int .i64) G54 y.2.2.2.2.2 y.2.2.1 ∧ List.drop y.1 u50.1 = y.2.1 ∧ law19_CuckooOrder_L4 (law19_CuckooOrder_J3 u23.1.2 u38.1) u50.2.2 u23.1.1 u38.1 y.2.1 y.2.2.1 = some r) (fun y => y.2.1.length) (0, u50.1, ([] : List Int), none, 0, []) ⟨(OL.nil (Rp' := (Rep.int .i64))), rfl, r51⟩ ⟨rfl, rfl, rfl, rfl, rfl, rfl, trivial⟩ rfl rfl rfl (fun y hI hb407 => ?_)
        obtain ⟨i397, w398, v400, a401, k402, cs403⟩ := y
        obtain ⟨o404, g399, r406⟩ := hI
        try dsimp only at o404 g399 r406
        refine Cov.prune [(6, .slice a401 v400.length k402), (33, .int .i64 (i397 : Int)), (4, _), (5, _), (31, _), (32, _)] ⟨rfl, rfl, rfl, rfl, rfl, rfl, trivial⟩ ?_
        refine Cov.same (bl' := [_, _]) (sl' := [.s (.slice a401 v400.length k402) 3 1 v400.length cs403, _, _]) (Fs' := G54 :: Fs) rfl rfl rfl ?_
        cases w398 with
        | nil =>
          rw [law19_CuckooOrder_L4] at r406; try dsimp only at r406
          refine Cov.seq ?_
          refine Cov.region rfl ?_
          refine Cov.q .ro (.lss rfl rfl) rfl ?_
          refine Cov.region_end ?_
          refine Cov.seq ?_
          refine Cov.cond_dec rfl (fun c => absurd c (drop_nil g399)) (fun _ => ?_)
          refine Cov.exit rfl ?_
          refine Cov.prune _ ?_ (Cov.same rfl rfl rfl (hb336 (v400, a401, k402, cs403, u50.2.2, u23.1.1) ⟨o404, r406⟩))
          exact ⟨rfl, rfl, rfl, trivial⟩
        | cons x416 xs417 =>
          have r415 : law19_CuckooOrder_B4 (law19_CuckooOrder_J3 u23.1.2 u38.1) u50.2.2 u23.1.1 u38.1 (law19_CuckooOrder_L4 (law19_CuckooOrder_J3 u23.1.2 u38.1) u50.2.2 u23.1.1 u38.1 xs417) x416 v400 = some r := r406; clear r406; unfold law19_CuckooOrder_B4 at r415; try dsimp only at r415
          refine Cov.seq ?_
          refine Cov.region rfl ?_
          refine Cov.q .ro (.lss rfl rfl) rfl ?_
          refine Cov.region_end ?_
          refine Cov.seq ?_
          refine Cov.cond_dec rfl (fun _ => ?_) (fun c => absurd (drop_lt g399) c)
          refine Cov.skip ?_
          refine Cov.seq ?_
          refine Cov.block ?_
          refine Cov.seq ?_
          refine Cov.region rfl ?_
          obtain ⟨c418, p419, h420⟩ := OL.get o62 (drop_idx g399)
          obtain rfl := h420
          refine Cov.q .ro (.idxO 1 rfl rfl rfl (drop_idx g399) sl22 ty3.sz) rfl ?_
          refine Cov.q .ro (.loadO 1 0 rfl (drop_idx g399) p419 rfl (.inl ⟨rfl, rfl⟩) ty3 rfl) rfl ?_
          refine Cov.q .ro (.assign rfl) rfl ?_
          refine Cov.region_end ?_
          refine Cov.region rfl ?_
          refine Cov.q .ro (.move rfl) rfl ?_
          refine Cov.q .ro (.move rfl) rfl ?_
          refine Cov.q .ro (.move rfl) rfl ?_
          obtain ⟨u421, hu421, r422⟩ := bind_some r415; clear r415
          obtain ⟨c423, p424, h425⟩ := OL.get (OL.mono e55 o46) hu421
          obtain rfl := h425
          refine Cov.q .ro (.idxO 2 rfl rfl rfl hu421 sl22 ty3.sz) rfl ?_
          refine Cov.q .ro (.loadO 2 0 rfl hu421 p424 rfl (.inl ⟨rfl, rfl⟩) ty3 rfl) rfl ?_
          refine Cov.lit [_] [(0, _)] .ro sl22 ty3 rfl rfl rfl rfl rfl rfl (fun b426 hb426 => ?_)
          have o427 : OL (Rep.int .i64) G54 [.int .i64 u421] ([u421] : List Int) := ((OL.cons rfl (Rep.intI .i64 u421) (OL.nil (Rp' := (Rep.int .i64)))) :)
          refine Cov.reval 42 (n' := ([u421] : List Int).length) rfl rfl ?_
          obtain ⟨u433, hu433, r434⟩ := bind_some r422; clear r422
          refine Cov.appO (Q := (Rep.int .i64)) 0 .ro sl22 ty3 rfl rfl rfl rfl rfl rfl o404 o427 rfl rfl rfl B56 hu433 rfl (fun a429 k430 cs431 o432 => ?_)
          refine Cov.q .ro (.assign rfl) rfl ?_
          refine Cov.region_end ?_
          refine Cov.inBlock ?_
          refine Cov.region rfl ?_
          refine Cov.q .ro (.addw rfl rfl) rfl ?_
          refine Cov.q .ro (.move rfl) rfl ?_
          refine Cov.region_end ?_
          refine Cov.prune _ ?_ (Cov.same rfl rfl rfl (hb407 ((i397 + 1), xs417, u433, a429, k430, cs431) ⟨o432, (drop_succ g399), r434⟩ (Nat.lt_succ_self _)))
          exact ⟨rfl, (congrArg (fun z => some (Value.int .i64 z)) (idx_wrap (OL.len' o62) g399)), rfl, rfl, rfl, rfl, trivial⟩

end Go.Proofs.Ytbhmhindommaeaa
