/- The walks. Printed by wip/lift/drive.py. -/
import Derived.Test.YtbhmhindommaeaaW3
namespace Go.Proofs.Ytbhmhindommaeaa
open Go.RowKit
set_option linter.unusedSimpArgs false
set_option linter.unusedVariables false
set_option synthInstance.maxSize 2000
set_option synthInstance.maxHeartbeats 400000

set_option maxHeartbeats 4000000 in
set_option maxRecDepth 100000 in
theorem law19_CuckooParts_c {Fs : List Hp} {G : Hp} {a0 : Option Addr} {k0 : Nat} {x0 : List Int} {x1 : Int} {x2_0 : Int} {x2_1 : Int} {r : Bool} (hG : G ∈ Fs) (s0 : SlR (Rep.int .i64) G a0 k0 x0) (h : law19_CuckooParts x0 x1 (x2_0, x2_1) = some r) : RetS Try.prog 4 #[.slice a0 x0.length k0, .int .u8 x1, .agg #[.int .i64 x2_0, .int .i64 x2_1]] Fs [] [] (fun v bo so => v = .bool r ∧ bo = [] ∧ so = []) := by
  unfold law19_CuckooParts at h
  try dsimp only at h
  refine RetS.of (vs := [_, _, _]) Try.func4 rfl Try.ntmps4 [(0, _), (1, _), (2, _)] ⟨rfl, rfl, rfl, trivial⟩ rfl hG fun w0 S0 hS0 B0 => ?_
  refine Cov.seq ?_
  refine Cov.region rfl ?_
  refine Cov.box [_, _] .ro rfl rfl rfl (fun b1 hb1 => ?_)
  refine Cov.q .ro (.assign rfl) rfl ?_
  refine Cov.region_end ?_
  refine Cov.seq ?_
  refine Cov.seq ?_
  refine Cov.region rfl ?_
  obtain ⟨u2, hu2, r3⟩ := bind_some h; clear h
  refine Cov.callS (b1 := []) (b2 := [_]) (s1 := []) [] [] .ro rfl rfl Try.call9 rfl rfl (law19_sane_c (G := G) List.mem_cons_self  hu2) rfl (fun v5 bo so h4 => ?_)
  obtain ⟨rfl, rfl, rfl⟩ := h4
  refine Cov.same (bl' := [_]) (sl' := []) rfl rfl rfl ?_
  refine Cov.q .ro (.not rfl) rfl ?_
  refine Cov.region_end ?_
  refine Cov.cond rfl (fun c6 => ?_) (fun c6 => ?_)
  · have r7 := ifT r3 c6; clear r3
    refine Cov.seq ?_
    refine Cov.region rfl ?_
    refine Cov.q .ro (.assign rfl) rfl ?_
    refine Cov.region_end ?_
    cases r7
    refine Cov.drop 1 0 [] _ rfl rfl ?_
    refine Cov.retS (c := ⟨4, none⟩) (.inr ⟨_, rfl⟩) [.tmp 6] [_] rfl Try.func4 Try.results4 ⟨RV.tmp rfl, trivial⟩ (fun _ h => List.mem_cons_of_mem _ h) ⟨rfl, rfl, rfl⟩
  · have r8 := ifBF r3 c6; clear r3
    refine Cov.skip ?_
    refine Cov.seq ?_
    refine Cov.seq ?_
    refine Cov.region rfl ?_
    refine Cov.q .ro (.move rfl) rfl ?_
    obtain ⟨u9, hu9, r10⟩ := bind_some r8; clear r8
    refine Cov.callS (b1 := []) (b2 := [_]) (s1 := []) [_] [] .ro rfl rfl Try.call10 rfl rfl (make_Few_c (G := G) List.mem_cons_self s0 hu9) rfl (fun v12 bo so h11 => ?_)
    obtain ⟨rfl, rfl, rfl⟩ := h11
    refine Cov.same (bl' := [_]) (sl' := []) rfl rfl rfl ?_
    refine Cov.q .ro (.not rfl) rfl ?_
    refine Cov.region_end ?_
    refine Cov.cond rfl (fun c13 => ?_) (fun c13 => ?_)
    · have r14 := ifT r10 c13; clear r10
      refine Cov.seq ?_
      refine Cov.region rfl ?_
      refine Cov.q .ro (.assign rfl) rfl ?_
      refine Cov.region_end ?_
      cases r14
      refine Cov.drop 1 0 [] _ rfl rfl ?_
      refine Cov.retS (c := ⟨4, none⟩) (.inr ⟨_, rfl⟩) [.tmp 6] [_] rfl Try.func4 Try.results4 ⟨RV.tmp rfl, trivial⟩ (fun _ h => List.mem_cons_of_mem _ h) ⟨rfl, rfl, rfl⟩
    · have r15 := ifBF r10 c13; clear r10
      refine Cov.skip ?_
      refine Cov.seq ?_
      refine Cov.region rfl ?_
      refine Cov.q .ro (.move rfl) rfl ?_
      obtain ⟨u16, hu16, r17⟩ := bind_some r15; clear r15
      refine Cov.callS (b1 := []) (b2 := [_]) (s1 := []) [_] [] .ro rfl rfl Try.call12 rfl rfl (make_New_c (G := G) List.mem_cons_self s0 hu16) rfl (fun v19 bo so h18 => ?_)
      obtain ⟨a21, k22, b20, rfl, rfl, rfl, s23⟩ := h18
      refine Cov.same (bl' := [_, _]) (sl' := []) rfl rfl rfl ?_
      refine Cov.q .ro (.assign rfl) rfl ?_
      refine Cov.region_end ?_
      refine Cov.seq ?_
      refine Cov.region rfl ?_
      refine Cov.q .ro (.move rfl) rfl ?_
      obtain ⟨u24, hu24, r25⟩ := bind_some r17; clear r17
      refine Cov.callW (b1 := [_]) (b2 := [_]) (s1 := []) [_] [] .ro rfl rfl Try.call11 rfl rfl (make_Hashing_c (G := G) List.mem_cons_self s23 hu24) rfl B0 (fun v27 bo so G28 e29 B30 h26 => ?_)
      obtain ⟨a32, k33, a35, k36, rfl, rfl, rfl, s34, s37⟩ := h26
      refine Cov.same (bl' := [_, _]) (sl' := []) rfl rfl rfl ?_
      refine Cov.alloc .ro ty25 rfl (fun b38 hb38 => ?_)
      refine Cov.store 0 [_, _] [_, _, _] .ro rfl rfl rfl ty25 rfl rfl rfl rfl ?_
      refine Cov.region_end ?_
      refine Cov.seq ?_
      refine Cov.region rfl ?_
      refine Cov.q .ro (.move rfl) rfl ?_
      refine Cov.q .ro (.fieldAddr 0 rfl fl25_0 ty3.sz rfl) rfl ?_
      refine Cov.q .ro (.load_own 0 rfl rfl ty3 rfl) rfl ?_
      obtain ⟨u39, hu39, r40⟩ := bind_some r25; clear r25
      refine Cov.pull 1 rfl [_, _, _] rfl ?_
      refine Cov.callS (b1 := [_]) (b2 := [_, _]) (s1 := []) [_, _] [] .ro rfl rfl Try.call16 rfl rfl (law19_items_c (G := G28) List.mem_cons_self s37 hu39) rfl (fun v42 bo so h41 => ?_)
      obtain ⟨a48, k49, a44, k45, cs46, rfl, rfl, rfl, s50, o47⟩ := h41
      refine Cov.same (bl' := [_, _, _]) (sl' := [_]) rfl rfl rfl ?_
      refine Cov.q .ro (.assign rfl) rfl ?_
      refine Cov.region_end ?_
      refine Cov.prune [(1, _), (5, _), (8, _), (9, _)] ⟨rfl, rfl, rfl, rfl, trivial⟩ ?_
      refine Cov.seq ?_
      refine Cov.region rfl ?_
      refine Cov.q .ro (.load_own_a 1 [_, _] rfl rfl ty25 rfl) rfl ?_
      refine Cov.q .ro (.move rfl) rfl ?_
      refine Cov.freezeR 0 rfl rfl o47 [] rfl B30 (fun G51 e52 B53 s54 => ?_)
      obtain ⟨u56, hu56, r57⟩ := bind_some r40; clear r40
      refine Cov.callW (b1 := []) (b2 := [_, _, _]) (s1 := []) [_, _] [] .ro rfl rfl Try.call17 rfl rfl (cuckoo_Assign_c (G := G51) List.mem_cons_self (SlR.mono e52 s34) s54 hu56) rfl B53 (fun v59 bo so G60 e61 B62 h58 => ?_)
      obtain ⟨a64, k65, rfl, rfl, rfl, s66⟩ := h58
      refine Cov.same (bl' := [_, _, _]) (sl' := []) rfl rfl rfl ?_
      refine Cov.q .ro (.move rfl) rfl ?_
      refine Cov.q .ro (.extract rfl rfl) rfl ?_
      refine Cov.q .ro (.extract rfl rfl) rfl ?_
      refine Cov.alloc .ro ty43 rfl (fun b67 hb67 => ?_)
      refine Cov.store 0 [_] [_, _, _, _] .ro rfl rfl rfl ty43 rfl rfl rfl rfl ?_
      refine Cov.q .ro (.assign rfl) rfl ?_
      refine Cov.region_end ?_
      refine Cov.seq ?_
      refine Cov.region rfl ?_
      refine Cov.q .ro (.move rfl) rfl ?_
      refine Cov.q .ro (.convw Try.underlying5 Try.underlying3 rfl) rfl ?_
      refine Cov.q .ro (.move rfl) rfl ?_
      refine Cov.q .ro (.len_sl rfl rfl sl22) rfl ?_
      refine Cov.q .ro (.addw rfl rfl) rfl ?_
      obtain ⟨u68, hu68, r69⟩ := bind_some r57; clear r57
      refine Cov.q .ro (.remt rfl rfl (nz_some hu68)) rfl ?_
      refine Cov.q .ro (.assign rfl) rfl ?_
      refine Cov.region_end ?_
      refine Cov.prune [(5, _), (8, _), (9, _), (11, _), (12, _)] ⟨rfl, rfl, rfl, rfl, rfl, trivial⟩ ?_
      refine Cov.seq ?_
      refine Cov.cutG (β := Hp × Int) (fun y => [(14, .int .i64 y.2)]) [(5, _), (8, _), (9, _), (11, _)] (fun y => y.1 :: Fs) (fun y => []) [_, _, _, _] (fun y => []) [] (fun y => HpLe G60 y.1 ∧ Bd w0 S0 Fs y.1 ∧ (law19_CuckooParts_J2 u39.1 u56.2 u24.1.1 u24.1.2 x2_0 x2_1) y.2 = some r) ⟨rfl, rfl, rfl, rfl, trivial⟩ [0, 1, 2, 3] rfl [] rfl ?_ ?_
      · intro y hI
        obtain ⟨G4125, v4129⟩ := y
        obtain ⟨e4126, B4127, r4131⟩ := hI
        try dsimp only at e4126 B4127 r4131
        refine Cov.prune [(14, .int .i64 v4129), (5, _), (8, _), (9, _), (11, _)] ⟨rfl, rfl, rfl, rfl, rfl, trivial⟩ ?_
        refine Cov.same (bl' := [_, _, _, _]) (sl' := []) (Fs' := G4125 :: Fs) rfl rfl rfl ?_
        unfold law19_CuckooParts_J2 at r4131
        try dsimp only at r4131
        refine Cov.seq ?_
        refine Cov.cutG (β := Nat × Int × (List (Int × Int)) × Option Addr × Nat × List Value) (fun y => [(15, .pointer (some ⟨y.1, 0, none⟩))]) [(14, _), (8, _), (9, _), (11, _)] (fun y => G4125 :: Fs) (fun y => [(y.1, .cells #[.int .i64 y.2.1, .slice y.2.2.2.1 y.2.2.1.length y.2.2.2.2.1] 25 (0, 0))]) [_, _, _, _] (fun y => [.s (.slice y.2.2.2.1 y.2.2.1.length y.2.2.2.2.1) 40 2 y.2.2.1.length y.2.2.2.2.2]) [] (fun y => OL (Rep.pair (Rep.int .i64) (Rep.int .i64)) G4125 y.2.2.2.2.2 y.2.2.1 ∧ (law19_CuckooParts_J1 v4129 u39.1 u56.2 u24.1.1 u24.1.2) y.2.1 y.2.2.1 = some r) ⟨rfl, rfl, rfl, rfl, trivial⟩ [0, 1, 2, 3] rfl [] rfl ?_ ?_
        · intro y hI
          obtain ⟨b8179, v8180, v8181, a8182, k8183, cs8184⟩ := y
          obtain ⟨o8185, r8188⟩ := hI
          try dsimp only at o8185 r8188
          refine Cov.prune [(15, .pointer (some ⟨b8179, 0, none⟩)), (14, _), (8, _), (9, _), (11, _)] ⟨rfl, rfl, rfl, rfl, rfl, trivial⟩ ?_
          refine Cov.same (bl' := [(b8179, .cells #[.int .i64 v8180, .slice a8182 v8181.length k8183] 25 (0, 0)), _, _, _, _]) (sl' := [.s (.slice a8182 v8181.length k8183) 40 2 v8181.length cs8184]) (Fs' := G4125 :: Fs) rfl rfl rfl ?_
          unfold law19_CuckooParts_J1 at r8188
          try dsimp only at r8188
          refine Cov.seq ?_
          refine Cov.region rfl ?_
          refine Cov.q .ro (.load_own_a 0 [_, _] rfl rfl ty25 rfl) rfl ?_
          refine Cov.q .ro (.move rfl) rfl ?_
          refine Cov.freezeR 0 rfl rfl o8185 [] rfl B4127 (fun G8199 e8200 B8201 s8202 => ?_)
          obtain ⟨u8204, hu8204, r8205⟩ := bind_some r8188; clear r8188
          refine Cov.callW (b1 := []) (b2 := [_, _, _, _, _]) (s1 := []) [_, _] [] .ro rfl rfl Try.call17 rfl rfl (cuckoo_Assign_c (G := G8199) List.mem_cons_self s8202 (SlR.mono (HpLe.trans (HpLe.trans e61 e4126) e8200) s54) hu8204) rfl B8201 (fun v8207 bo so G8208 e8209 B8210 h8206 => ?_)
          obtain ⟨a8212, k8213, rfl, rfl, rfl, s8214⟩ := h8206
          refine Cov.same (bl' := [_, _, _, _, _]) (sl' := []) rfl rfl rfl ?_
          refine Cov.q .ro (.move rfl) rfl ?_
          refine Cov.q .ro (.extract rfl rfl) rfl ?_
          refine Cov.q .ro (.extract rfl rfl) rfl ?_
          refine Cov.alloc .ro ty43 rfl (fun b8215 hb8215 => ?_)
          refine Cov.store 0 [_] [_, _, _, _, _, _] .ro rfl rfl rfl ty43 rfl rfl rfl rfl ?_
          refine Cov.q .ro (.assign rfl) rfl ?_
          refine Cov.region_end ?_
          refine Cov.seq ?_
          refine Cov.region rfl ?_
          refine Cov.q .ro (.load_own_a 4 [_, _] rfl rfl ty25 rfl) rfl ?_
          refine Cov.q .ro (.fieldAddr 0 rfl fl25_0 ty3.sz rfl) rfl ?_
          refine Cov.q .ro (.load_own 4 rfl rfl ty3 rfl) rfl ?_
          refine Cov.q .ro (.min2 rfl rfl) rfl ?_
          obtain ⟨u8216, hu8216, r8217⟩ := bind_some r8205; clear r8205
          refine Cov.callS (b1 := []) (b2 := [_, _, _, _, _, _]) (s1 := []) [_, _, _] [] .ro rfl rfl Try.call14 rfl rfl (cuckoo_Failures_c (G := G8208) List.mem_cons_self (SlR.mono (HpLe.trans (HpLe.trans (HpLe.trans (HpLe.trans e52 e61) e4126) e8200) e8209) s34) hu8216) rfl (fun v8219 bo so h8218 => ?_)
          obtain ⟨rfl, rfl, rfl⟩ := h8218
          refine Cov.same (bl' := [_, _, _, _, _, _]) (sl' := []) rfl rfl rfl ?_
          refine Cov.q .ro (.move rfl) rfl ?_
          refine Cov.q .ro (.extract rfl rfl) rfl ?_
          refine Cov.q .ro (.extract rfl rfl) rfl ?_
          refine Cov.q .ro (.extract rfl rfl) rfl ?_
          refine Cov.q .ro (.assign rfl) rfl ?_
          refine Cov.q .ro (.assign rfl) rfl ?_
          refine Cov.q .ro (.assign rfl) rfl ?_
          refine Cov.region_end ?_
          refine Cov.prune [(15, _), (14, _), (8, _), (11, _), (17, _), (18, _), (19, _), (20, _)] ⟨rfl, rfl, rfl, rfl, rfl, rfl, rfl, rfl, trivial⟩ ?_
          refine Cov.seq ?_
          refine Cov.region rfl ?_
          refine Cov.q .ro (.load_own_a 1 [_, _] rfl rfl ty25 rfl) rfl ?_
          refine Cov.q .ro (.fieldAddr 0 rfl fl25_0 ty3.sz rfl) rfl ?_
          refine Cov.q .ro (.load_own 4 rfl rfl ty3 rfl) rfl ?_
          refine Cov.q .ro (.min2 rfl rfl) rfl ?_
          obtain ⟨u8220, hu8220, r8221⟩ := bind_some r8217; clear r8217
          refine Cov.callS (b1 := []) (b2 := [_, _, _, _, _, _]) (s1 := []) [_, _, _] [] .ro rfl rfl Try.call14 rfl rfl (cuckoo_Failures_c (G := G8208) List.mem_cons_self (SlR.mono e8209 s8202) hu8220) rfl (fun v8223 bo so h8222 => ?_)
          obtain ⟨rfl, rfl, rfl⟩ := h8222
          refine Cov.same (bl' := [_, _, _, _, _, _]) (sl' := []) rfl rfl rfl ?_
          refine Cov.q .ro (.move rfl) rfl ?_
          refine Cov.q .ro (.extract rfl rfl) rfl ?_
          refine Cov.q .ro (.extract rfl rfl) rfl ?_
          refine Cov.q .ro (.extract rfl rfl) rfl ?_
          refine Cov.q .ro (.assign rfl) rfl ?_
          refine Cov.q .ro (.assign rfl) rfl ?_
          refine Cov.q .ro (.assign rfl) rfl ?_
          refine Cov.region_end ?_
          refine Cov.seq ?_
          refine Cov.region rfl ?_
          refine Cov.q .ro (.move rfl) rfl ?_
          refine Cov.q .ro (.neq rfl rfl) rfl ?_
          refine Cov.q .ro (.move rfl) rfl ?_
          refine Cov.cutR 7 (β := Unit) (fun y => [(114, .bool (decide ((u56.2 ≠ 0) ∨ ((v4129 = 0) ∧ (u8204.2 = 0)))))]) [(18, _), (19, _), (20, _), (21, _), (22, _), (23, _)] (fun y => G8208 :: Fs) (fun y => []) [_, _, _, _, _, _] (fun y => []) [] (fun y => True) ⟨rfl, rfl, rfl, rfl, rfl, rfl, trivial⟩ [0, 1, 2, 3, 4, 5] rfl [] rfl ?_ ?_
          · rintro _ _
            refine Cov.prune [(114, .bool (decide ((u56.2 ≠ 0) ∨ ((v4129 = 0) ∧ (u8204.2 = 0))))), (18, _), (19, _), (20, _), (21, _), (22, _), (23, _)] ⟨rfl, rfl, rfl, rfl, rfl, rfl, rfl, trivial⟩ ?_
            refine Cov.same (bl' := [_, _, _, _, _, _]) (sl' := []) (Fs' := G8208 :: Fs) rfl rfl rfl ?_
            refine Cov.q .ro (.move rfl) rfl ?_
            refine Cov.cutR 3 (β := Unit) (fun y => [(118, .bool (decide (((u56.2 ≠ 0) ∨ ((v4129 = 0) ∧ (u8204.2 = 0))) ∧ (u8216.2.2 = 0))))]) [(18, _), (19, _), (21, _), (22, _), (23, _)] (fun y => G8208 :: Fs) (fun y => []) [_, _, _, _, _, _] (fun y => []) [] (fun y => True) ⟨rfl, rfl, rfl, rfl, rfl, trivial⟩ [0, 1, 2, 3, 4, 5] rfl [] rfl ?_ ?_
            · rintro _ _
              refine Cov.prune [(118, .bool (decide (((u56.2 ≠ 0) ∨ ((v4129 = 0) ∧ (u8204.2 = 0))) ∧ (u8216.2.2 = 0)))), (18, _), (19, _), (21, _), (22, _), (23, _)] ⟨rfl, rfl, rfl, rfl, rfl, rfl, trivial⟩ ?_
              refine Cov.same (bl' := [_, _, _, _, _, _]) (sl' := []) (Fs' := G8208 :: Fs) rfl rfl rfl ?_
              refine Cov.q .ro (.move rfl) rfl ?_
              refine Cov.cutR 3 (β := Unit) (fun y => [(122, .bool (decide ((((u56.2 ≠ 0) ∨ ((v4129 = 0) ∧ (u8204.2 = 0))) ∧ (u8216.2.2 = 0)) ∧ (u8220.2.2 = 0))))]) [(18, _), (19, _), (21, _), (22, _)] (fun y => G8208 :: Fs) (fun y => []) [_, _, _, _, _, _] (fun y => []) [] (fun y => True) ⟨rfl, rfl, rfl, rfl, trivial⟩ [0, 1, 2, 3, 4, 5] rfl [] rfl ?_ ?_
              · rintro _ _
                refine Cov.prune [(122, .bool (decide ((((u56.2 ≠ 0) ∨ ((v4129 = 0) ∧ (u8204.2 = 0))) ∧ (u8216.2.2 = 0)) ∧ (u8220.2.2 = 0)))), (18, _), (19, _), (21, _), (22, _)] ⟨rfl, rfl, rfl, rfl, rfl, trivial⟩ ?_
                refine Cov.same (bl' := [_, _, _, _, _, _]) (sl' := []) (Fs' := G8208 :: Fs) rfl rfl rfl ?_
                refine Cov.q .ro (.move rfl) rfl ?_
                refine Cov.cutR 4 (β := Unit) (fun y => [(127, .bool (decide (((((u56.2 ≠ 0) ∨ ((v4129 = 0) ∧ (u8204.2 = 0))) ∧ (u8216.2.2 = 0)) ∧ (u8220.2.2 = 0)) ∧ (u8216.2.1 = u8220.2.1))))]) [(18, _), (19, _), (21, _)] (fun y => G8208 :: Fs) (fun y => []) [_, _, _, _, _, _] (fun y => []) [] (fun y => True) ⟨rfl, rfl, rfl, trivial⟩ [0, 1, 2, 3, 4, 5] rfl [] rfl ?_ ?_
                · rintro _ _
                  refine Cov.prune [(127, .bool (decide (((((u56.2 ≠ 0) ∨ ((v4129 = 0) ∧ (u8204.2 = 0))) ∧ (u8216.2.2 = 0)) ∧ (u8220.2.2 = 0)) ∧ (u8216.2.1 = u8220.2.1)))), (18, _), (19, _), (21, _)] ⟨rfl, rfl, rfl, rfl, trivial⟩ ?_
                  refine Cov.same (bl' := [_, _, _, _, _, _]) (sl' := []) (Fs' := G8208 :: Fs) rfl rfl rfl ?_
                  refine Cov.q .ro (.move rfl) rfl ?_
                  refine Cov.cutR 4 (β := Unit) (fun y => [(132, .bool (decide ((((((u56.2 ≠ 0) ∨ ((v4129 = 0) ∧ (u8204.2 = 0))) ∧ (u8216.2.2 = 0)) ∧ (u8220.2.2 = 0)) ∧ (u8216.2.1 = u8220.2.1)) ∧ (u8220.1 ≤ u8216.1))))]) [(18, _), (19, _)] (fun y => G8208 :: Fs) (fun y => []) [_, _, _, _, _, _] (fun y => []) [] (fun y => True) ⟨rfl, rfl, trivial⟩ [0, 1, 2, 3, 4, 5] rfl [] rfl ?_ ?_
                  · rintro _ _
                    refine Cov.prune [(132, .bool (decide ((((((u56.2 ≠ 0) ∨ ((v4129 = 0) ∧ (u8204.2 = 0))) ∧ (u8216.2.2 = 0)) ∧ (u8220.2.2 = 0)) ∧ (u8216.2.1 = u8220.2.1)) ∧ (u8220.1 ≤ u8216.1)))), (18, _), (19, _)] ⟨rfl, rfl, rfl, trivial⟩ ?_
                    refine Cov.same (bl' := [_, _, _, _, _, _]) (sl' := []) (Fs' := G8208 :: Fs) rfl rfl rfl ?_
                    refine Cov.q .ro (.move rfl) rfl ?_
                    refine Cov.cutR 4 (β := Unit) (fun y => [(137, .bool (decide (((((((u56.2 ≠ 0) ∨ ((v4129 = 0) ∧ (u8204.2 = 0))) ∧ (u8216.2.2 = 0)) ∧ (u8220.2.2 = 0)) ∧ (u8216.2.1 = u8220.2.1)) ∧ (u8220.1 ≤ u8216.1)) ∧ (u8216.1 ≤ u8216.2.1))))]) [(18, _)] (fun y => G8208 :: Fs) (fun y => []) [_, _, _, _, _, _] (fun y => []) [] (fun y => True) ⟨rfl, trivial⟩ [0, 1, 2, 3, 4, 5] rfl [] rfl ?_ ?_
                    · rintro _ _
                      refine Cov.prune [(137, .bool (decide (((((((u56.2 ≠ 0) ∨ ((v4129 = 0) ∧ (u8204.2 = 0))) ∧ (u8216.2.2 = 0)) ∧ (u8220.2.2 = 0)) ∧ (u8216.2.1 = u8220.2.1)) ∧ (u8220.1 ≤ u8216.1)) ∧ (u8216.1 ≤ u8216.2.1)))), (18, _)] ⟨rfl, rfl, trivial⟩ ?_
                      refine Cov.same (bl' := [_, _, _, _, _, _]) (sl' := []) (Fs' := G8208 :: Fs) rfl rfl rfl ?_
                      refine Cov.q .ro (.move rfl) rfl ?_
                      refine Cov.cutR 3 (β := Unit) (fun y => [(141, .bool (decide ((((((((u56.2 ≠ 0) ∨ ((v4129 = 0) ∧ (u8204.2 = 0))) ∧ (u8216.2.2 = 0)) ∧ (u8220.2.2 = 0)) ∧ (u8216.2.1 = u8220.2.1)) ∧ (u8220.1 ≤ u8216.1)) ∧ (u8216.1 ≤ u8216.2.1)) ∧ (0 ≤ u8216.1))))]) [] (fun y => G8208 :: Fs) (fun y => []) [_, _, _, _, _, _] (fun y => []) [] (fun y => True) trivial [0, 1, 2, 3, 4, 5] rfl [] rfl ?_ ?_
                      · rintro _ _
                        refine Cov.prune [(141, .bool (decide ((((((((u56.2 ≠ 0) ∨ ((v4129 = 0) ∧ (u8204.2 = 0))) ∧ (u8216.2.2 = 0)) ∧ (u8220.2.2 = 0)) ∧ (u8216.2.1 = u8220.2.1)) ∧ (u8220.1 ≤ u8216.1)) ∧ (u8216.1 ≤ u8216.2.1)) ∧ (0 ≤ u8216.1))))] ⟨rfl, trivial⟩ ?_
                        refine Cov.same (bl' := [_, _, _, _, _, _]) (sl' := []) (Fs' := G8208 :: Fs) rfl rfl rfl ?_
                        refine Cov.q .ro (.assign rfl) rfl ?_
                        refine Cov.region_end ?_
                        cases r8221
                        refine Cov.drop 6 0 [] _ rfl rfl ?_
                        refine Cov.retS (c := ⟨4, none⟩) (.inr ⟨_, rfl⟩) [.tmp 6] [_] rfl Try.func4 Try.results4 ⟨RV.tmp rfl, trivial⟩ (fun _ h => List.mem_cons_of_mem _ h) ⟨rfl, rfl, rfl⟩
                      · intro hb8253
                        refine Cov.split 138 rfl (fun c8252 => ?_) (fun c8252 => ?_)
                        · refine Cov.g_on rfl ?_
                          refine Cov.q .ro (.move rfl) rfl ?_
                          refine Cov.g_on rfl ?_
                          refine Cov.q .ro (.geq rfl rfl) rfl ?_
                          refine Cov.q .ro (.pick_t rfl rfl) rfl ?_
                          refine Cov.prune _ ?_ (Cov.same rfl rfl rfl (hb8253 () trivial))
                          exact ⟨dand_t c8252, trivial⟩
                        · refine Cov.g_off rfl rfl rfl ?_
                          refine Cov.g_off rfl rfl rfl ?_
                          refine Cov.q .ro (.pick_f rfl rfl) rfl ?_
                          refine Cov.prune _ ?_ (Cov.same rfl rfl rfl (hb8253 () trivial))
                          exact ⟨dand_f c8252, trivial⟩
                    · intro hb8249
                      refine Cov.split 133 rfl (fun c8248 => ?_) (fun c8248 => ?_)
                      · refine Cov.g_on rfl ?_
                        refine Cov.q .ro (.move rfl) rfl ?_
                        refine Cov.g_on rfl ?_
                        refine Cov.q .ro (.move rfl) rfl ?_
                        refine Cov.g_on rfl ?_
                        refine Cov.q .ro (.leq rfl rfl) rfl ?_
                        refine Cov.q .ro (.pick_t rfl rfl) rfl ?_
                        refine Cov.prune _ ?_ (Cov.same rfl rfl rfl (hb8249 () trivial))
                        exact ⟨dand_t c8248, rfl, trivial⟩
                      · refine Cov.g_off rfl rfl rfl ?_
                        refine Cov.g_off rfl rfl rfl ?_
                        refine Cov.g_off rfl rfl rfl ?_
                        refine Cov.q .ro (.pick_f rfl rfl) rfl ?_
                        refine Cov.prune _ ?_ (Cov.same rfl rfl rfl (hb8249 () trivial))
                        exact ⟨dand_f c8248, rfl, trivial⟩
                  · intro hb8245
                    refine Cov.split 128 rfl (fun c8244 => ?_) (fun c8244 => ?_)
                    · refine Cov.g_on rfl ?_
                      refine Cov.q .ro (.move rfl) rfl ?_
                      refine Cov.g_on rfl ?_
                      refine Cov.q .ro (.move rfl) rfl ?_
                      refine Cov.g_on rfl ?_
                      refine Cov.q .ro (.leq rfl rfl) rfl ?_
                      refine Cov.q .ro (.pick_t rfl rfl) rfl ?_
                      refine Cov.prune _ ?_ (Cov.same rfl rfl rfl (hb8245 () trivial))
                      exact ⟨dand_t c8244, rfl, rfl, trivial⟩
                    · refine Cov.g_off rfl rfl rfl ?_
                      refine Cov.g_off rfl rfl rfl ?_
                      refine Cov.g_off rfl rfl rfl ?_
                      refine Cov.q .ro (.pick_f rfl rfl) rfl ?_
                      refine Cov.prune _ ?_ (Cov.same rfl rfl rfl (hb8245 () trivial))
                      exact ⟨dand_f c8244, rfl, rfl, trivial⟩
                · intro hb8241
                  refine Cov.split 123 rfl (fun c8240 => ?_) (fun c8240 => ?_)
                  · refine Cov.g_on rfl ?_
                    refine Cov.q .ro (.move rfl) rfl ?_
                    refine Cov.g_on rfl ?_
                    refine Cov.q .ro (.move rfl) rfl ?_
                    refine Cov.g_on rfl ?_
                    refine Cov.q .ro (.eql rfl rfl) rfl ?_
                    refine Cov.q .ro (.pick_t rfl rfl) rfl ?_
                    refine Cov.prune _ ?_ (Cov.same rfl rfl rfl (hb8241 () trivial))
                    exact ⟨dand_t c8240, rfl, rfl, rfl, trivial⟩
                  · refine Cov.g_off rfl rfl rfl ?_
                    refine Cov.g_off rfl rfl rfl ?_
                    refine Cov.g_off rfl rfl rfl ?_
                    refine Cov.q .ro (.pick_f rfl rfl) rfl ?_
                    refine Cov.prune _ ?_ (Cov.same rfl rfl rfl (hb8241 () trivial))
                    exact ⟨dand_f c8240, rfl, rfl, rfl, trivial⟩
              · intro hb8237
                refine Cov.split 119 rfl (fun c8236 => ?_) (fun c8236 => ?_)
                · refine Cov.g_on rfl ?_
                  refine Cov.q .ro (.move rfl) rfl ?_
                  refine Cov.g_on rfl ?_
                  refine Cov.q .ro (.eql rfl rfl) rfl ?_
                  refine Cov.q .ro (.pick_t rfl rfl) rfl ?_
                  refine Cov.prune _ ?_ (Cov.same rfl rfl rfl (hb8237 () trivial))
                  exact ⟨dand_t c8236, rfl, rfl, rfl, rfl, trivial⟩
                · refine Cov.g_off rfl rfl rfl ?_
                  refine Cov.g_off rfl rfl rfl ?_
                  refine Cov.q .ro (.pick_f rfl rfl) rfl ?_
                  refine Cov.prune _ ?_ (Cov.same rfl rfl rfl (hb8237 () trivial))
                  exact ⟨dand_f c8236, rfl, rfl, rfl, rfl, trivial⟩
            · intro hb8233
              refine Cov.split 115 rfl (fun c8232 => ?_) (fun c8232 => ?_)
              · refine Cov.g_on rfl ?_
                refine Cov.q .ro (.move rfl) rfl ?_
                refine Cov.g_on rfl ?_
                refine Cov.q .ro (.eql rfl rfl) rfl ?_
                refine Cov.q .ro (.pick_t rfl rfl) rfl ?_
                refine Cov.prune _ ?_ (Cov.same rfl rfl rfl (hb8233 () trivial))
                exact ⟨dand_t c8232, rfl, rfl, rfl, rfl, rfl, trivial⟩
              · refine Cov.g_off rfl rfl rfl ?_
                refine Cov.g_off rfl rfl rfl ?_
                refine Cov.q .ro (.pick_f rfl rfl) rfl ?_
                refine Cov.prune _ ?_ (Cov.same rfl rfl rfl (hb8233 () trivial))
                exact ⟨dand_f c8232, rfl, rfl, rfl, rfl, rfl, trivial⟩
          · intro hb8229
            refine Cov.split 107 rfl (fun c8228 => ?_) (fun c8228 => ?_)
            · refine Cov.g_off rfl rfl rfl ?_
              refine Cov.g_off rfl rfl rfl ?_
              refine Cov.g_off rfl rfl rfl ?_
              refine Cov.gu_off rfl rfl ?_
              refine Cov.gu_off rfl rfl ?_
              refine Cov.g_off rfl rfl rfl ?_
              refine Cov.q .ro (.pick_t rfl rfl) rfl ?_
              refine Cov.prune _ ?_ (Cov.same rfl rfl rfl (hb8229 () trivial))
              exact ⟨dor_t c8228, rfl, rfl, rfl, rfl, rfl, rfl, trivial⟩
            · refine Cov.g_on rfl ?_
              refine Cov.q .ro (.move rfl) rfl ?_
              refine Cov.g_on rfl ?_
              refine Cov.q .ro (.eql rfl rfl) rfl ?_
              refine Cov.g_on rfl ?_
              refine Cov.q .ro (.move rfl) rfl ?_
              refine Cov.cutR 3 (β := Unit) (fun y => [(113, .bool (decide ((v4129 = 0) ∧ (u8204.2 = 0))))]) [(18, _), (19, _), (20, _), (21, _), (22, _), (23, _), (107, _)] (fun y => G8208 :: Fs) (fun y => []) [_, _, _, _, _, _] (fun y => []) [] (fun y => True) ⟨rfl, rfl, rfl, rfl, rfl, rfl, rfl, trivial⟩ [0, 1, 2, 3, 4, 5] rfl [] rfl ?_ ?_
              · rintro _ _
                refine Cov.prune [(113, .bool (decide ((v4129 = 0) ∧ (u8204.2 = 0)))), (18, _), (19, _), (20, _), (21, _), (22, _), (23, _), (107, _)] ⟨rfl, rfl, rfl, rfl, rfl, rfl, rfl, rfl, trivial⟩ ?_
                refine Cov.same (bl' := [_, _, _, _, _, _]) (sl' := []) (Fs' := G8208 :: Fs) rfl rfl rfl ?_
                refine Cov.q .ro (.pick_f rfl rfl) rfl ?_
                refine Cov.prune _ ?_ (Cov.same rfl rfl rfl (hb8229 () trivial))
                exact ⟨dor_f c8228, rfl, rfl, rfl, rfl, rfl, rfl, trivial⟩
              · intro hb8257
                refine Cov.split 110 rfl (fun c8256 => ?_) (fun c8256 => ?_)
                · refine Cov.g_on rfl ?_
                  refine Cov.q .ro (.move rfl) rfl ?_
                  refine Cov.g_on rfl ?_
                  refine Cov.q .ro (.eql rfl rfl) rfl ?_
                  refine Cov.g_on rfl ?_
                  refine Cov.q .ro (.pick_t rfl rfl) rfl ?_
                  refine Cov.prune _ ?_ (Cov.same rfl rfl rfl (hb8257 () trivial))
                  exact ⟨dand_t c8256, rfl, rfl, rfl, rfl, rfl, rfl, rfl, trivial⟩
                · refine Cov.g_off rfl rfl rfl ?_
                  refine Cov.g_off rfl rfl rfl ?_
                  refine Cov.g_on rfl ?_
                  refine Cov.q .ro (.pick_f rfl rfl) rfl ?_
                  refine Cov.prune _ ?_ (Cov.same rfl rfl rfl (hb8257 () trivial))
                  exact ⟨dand_f c8256, rfl, rfl, rfl, rfl, rfl, rfl, rfl, trivial⟩
        · intro hb8260
          refine Cov.drawL (.q 0 (.q 1 (.q 2 (.q 3 (.q 5 (.q 6 (.q 8 (.q 9 (.alt (.e 4 1 (.alt (.e 7 1 (.alt (.e 10 1 (.q 11 (.alt (.e 12 1 (.alt (.e 13 1 (.q 14 (.e 15 1 (.e 16 2 .nil)))) (.e 15 1 (.e 13 1 (.q 14 (.e 16 2 .nil)))))) (.e 15 1 (.e 12 1 (.e 13 1 (.q 14 (.e 16 2 .nil)))))))) (.e 15 1 (.e 10 1 (.q 11 (.e 12 1 (.e 13 1 (.q 14 (.e 16 2 .nil))))))))) (.e 15 1 (.e 7 1 (.e 10 1 (.q 11 (.e 12 1 (.e 13 1 (.q 14 (.e 16 2 .nil)))))))))) (.e 15 1 (.e 4 1 (.e 7 1 (.e 10 1 (.q 11 (.e 12 1 (.e 13 1 (.q 14 (.e 16 2 .nil)))))))))))))))))) [_, _, _, _] (by kernel_rfl) (by kernel_rfl) (pick_mem [0, 1, 2, 3] rfl) ?_
          obtain ⟨u8266, hu8266, r8284⟩ := bind_some r4131; clear r4131
          obtain ⟨u8268, hu8268, r8285⟩ := bind_some r8284; clear r8284
          obtain ⟨u8271, hu8271, r8286⟩ := bind_some r8285; clear r8285
          obtain ⟨u8281, hu8281, r8287⟩ := bind_some r8286; clear r8286
          refine Cov.dq (.fieldAddr 0 rfl fl25_0 ty3.sz rfl) rfl ?_
          refine Cov.dq (.load_own 2 rfl rfl ty3 rfl) rfl ?_
          refine Cov.dq (.fieldAddr 1 rfl fl25_1 ty23.sz rfl) rfl ?_
          refine Cov.dq (.load_own 2 rfl rfl ty23 rfl) rfl ?_
          refine Cov.dq (.fieldAddr 0 rfl fl40_0 ty3.sz rfl) rfl ?_
          refine Cov.dq (.load_own 3 rfl rfl ty3 rfl) rfl ?_
          refine Cov.dq (.fieldAddr 1 rfl fl40_1 ty3.sz rfl) rfl ?_
          refine Cov.dq (.load_own 3 rfl rfl ty3 rfl) rfl ?_
          refine Cov.alt ?_ ?_
          · refine Cov.own_nil 40 2 ?_
            refine Cov.appR (Q := (Rep.pair (Rep.int .i64) (Rep.int .i64))) 0 .d1 sl23 ty40 rfl rfl rfl rfl rfl (OL.nil (Rp' := (Rep.pair (Rep.int .i64) (Rep.int .i64)))) rfl rfl (SlR.mono (HpLe.trans (HpLe.trans e52 e61) e4126) s34) rfl List.mem_cons_self hu8266 rfl (fun a8289 k8290 cs8291 o8292 => ?_)
            refine Cov.clsL (HpLe.refl _) (pick_mem [0, 1, 2, 3] rfl) ?_
            refine Cov.alt ?_ ?_
            · refine Cov.callS (b1 := []) (b2 := [_, _, _, _]) (s1 := []) [_, _] [] .d1 rfl rfl Try.call13 rfl rfl (make_Mod_c (G := G4125) List.mem_cons_self  hu8268) rfl (fun v8295 bo so h8294 => ?_)
              obtain ⟨rfl, rfl, rfl⟩ := h8294
              refine Cov.same (bl' := [_, _, _, _]) (sl' := [_]) rfl rfl rfl ?_
              refine Cov.clsL (HpLe.refl _) (pick_mem [0, 1, 2, 3] rfl) ?_
              refine Cov.alt ?_ ?_
              · refine Cov.callS (b1 := []) (b2 := [_, _, _, _]) (s1 := []) [_, _] [] .d1 rfl rfl Try.call13 rfl rfl (make_Mod_c (G := G4125) List.mem_cons_self  hu8271) rfl (fun v8297 bo so h8296 => ?_)
                obtain ⟨rfl, rfl, rfl⟩ := h8296
                refine Cov.same (bl' := [_, _, _, _]) (sl' := [_]) rfl rfl rfl ?_
                refine Cov.clsL (HpLe.refl _) (pick_mem [0, 1, 2, 3] rfl) ?_
                refine Cov.dq (.build [_, _] [(0, _), (1, _)] ty40 pl40 rfl rfl) rfl ?_
                refine Cov.alt ?_ ?_
                · refine Cov.lit [_, _] [(0, _)] .d1 sl23 ty40 rfl rfl rfl rfl rfl rfl (fun b8298 hb8298 => ?_)
                  have o8299 : OL (Rep.pair (Rep.int .i64) (Rep.int .i64)) G4125 [.int .i64 u8268, .int .i64 u8271] ([(u8268, u8271)] : List (Int × Int)) := ((OL.cons rfl (Rep.pairI (Rep.intI .i64 u8268) (Rep.intI .i64 u8271)) (OL.nil (Rp' := (Rep.pair (Rep.int .i64) (Rep.int .i64))))) :)
                  refine Cov.reval 78 (n' := ([(u8268, u8271)] : List (Int × Int)).length) rfl rfl ?_
                  refine Cov.clsL (HpLe.refl _) (pick_mem [0, 1, 2, 3] rfl) ?_
                  refine Cov.alt ?_ ?_
                  · refine Cov.appO (Q := (Rep.pair (Rep.int .i64) (Rep.int .i64))) 0 .d1 sl23 ty40 rfl rfl rfl rfl rfl rfl o8292 o8299 rfl rfl rfl B4127 hu8281 rfl (fun a8301 k8302 cs8303 o8304 => ?_)
                    refine Cov.clsL (HpLe.refl _) (pick_mem [0, 1, 2, 3] rfl) ?_
                    refine Cov.dq (.build [_, _] [(0, _), (1, _)] ty25 pl25 rfl rfl) rfl ?_
                    refine Cov.alloc .d1 ty25 rfl (fun b8306 hb8306 => ?_)
                    refine Cov.clsL (HpLe.refl _) (pick_mem [1, 2, 3, 4] rfl) ?_
                    refine Cov.store 0 [_, _] [_, _, _, _, _] .d2 rfl rfl rfl ty25 rfl rfl rfl rfl ?_
                    refine Cov.draw_end ?_
                    refine Cov.prune [(14, _), (8, _), (9, _), (11, _), (15, _)] ⟨rfl, rfl, rfl, rfl, rfl, trivial⟩ ?_
                    refine Cov.prune _ ?_ (Cov.same rfl rfl rfl (hb8260 (b8306, u24.1.1, u8281, a8301, k8302, cs8303) ⟨o8304, r8287⟩))
                    exact ⟨rfl, rfl, rfl, rfl, rfl, trivial⟩
                  · refine Cov.alloc .d1 ty25 rfl (fun b8307 hb8307 => ?_)
                    refine Cov.clsL (HpLe.refl _) (pick_mem [1, 2, 3, 4] rfl) ?_
                    refine Cov.appO (Q := (Rep.pair (Rep.int .i64) (Rep.int .i64))) 0 .d1 sl23 ty40 rfl rfl rfl rfl rfl rfl o8292 o8299 rfl rfl rfl B4127 hu8281 rfl (fun a8308 k8309 cs8310 o8311 => ?_)
                    refine Cov.clsL (HpLe.refl _) (pick_mem [1, 2, 3, 4] rfl) ?_
                    refine Cov.dq (.build [_, _] [(0, _), (1, _)] ty25 pl25 rfl rfl) rfl ?_
                    refine Cov.store 0 [_, _] [_, _, _, _, _] .d2 rfl rfl rfl ty25 rfl rfl rfl rfl ?_
                    refine Cov.draw_end ?_
                    refine Cov.prune [(14, _), (8, _), (9, _), (11, _), (15, _)] ⟨rfl, rfl, rfl, rfl, rfl, trivial⟩ ?_
                    refine Cov.prune _ ?_ (Cov.same rfl rfl rfl (hb8260 (b8307, u24.1.1, u8281, a8308, k8309, cs8310) ⟨o8311, r8287⟩))
                    exact ⟨rfl, rfl, rfl, rfl, rfl, trivial⟩
                · refine Cov.alloc .d1 ty25 rfl (fun b8313 hb8313 => ?_)
                  refine Cov.clsL (HpLe.refl _) (pick_mem [1, 2, 3, 4] rfl) ?_
                  refine Cov.lit [_, _] [(0, _)] .d1 sl23 ty40 rfl rfl rfl rfl rfl rfl (fun b8314 hb8314 => ?_)
                  have o8315 : OL (Rep.pair (Rep.int .i64) (Rep.int .i64)) G4125 [.int .i64 u8268, .int .i64 u8271] ([(u8268, u8271)] : List (Int × Int)) := ((OL.cons rfl (Rep.pairI (Rep.intI .i64 u8268) (Rep.intI .i64 u8271)) (OL.nil (Rp' := (Rep.pair (Rep.int .i64) (Rep.int .i64))))) :)
                  refine Cov.reval 78 (n' := ([(u8268, u8271)] : List (Int × Int)).length) rfl rfl ?_
                  refine Cov.clsL (HpLe.refl _) (pick_mem [1, 2, 3, 4] rfl) ?_
                  refine Cov.appO (Q := (Rep.pair (Rep.int .i64) (Rep.int .i64))) 0 .d1 sl23 ty40 rfl rfl rfl rfl rfl rfl o8292 o8315 rfl rfl rfl B4127 hu8281 rfl (fun a8317 k8318 cs8319 o8320 => ?_)
                  refine Cov.clsL (HpLe.refl _) (pick_mem [1, 2, 3, 4] rfl) ?_
                  refine Cov.dq (.build [_, _] [(0, _), (1, _)] ty25 pl25 rfl rfl) rfl ?_
                  refine Cov.store 0 [_, _] [_, _, _, _, _] .d2 rfl rfl rfl ty25 rfl rfl rfl rfl ?_
                  refine Cov.draw_end ?_
                  refine Cov.prune [(14, _), (8, _), (9, _), (11, _), (15, _)] ⟨rfl, rfl, rfl, rfl, rfl, trivial⟩ ?_
                  refine Cov.prune _ ?_ (Cov.same rfl rfl rfl (hb8260 (b8313, u24.1.1, u8281, a8317, k8318, cs8319) ⟨o8320, r8287⟩))
                  exact ⟨rfl, rfl, rfl, rfl, rfl, trivial⟩
              · refine Cov.alloc .d1 ty25 rfl (fun b8322 hb8322 => ?_)
                refine Cov.clsL (HpLe.refl _) (pick_mem [1, 2, 3, 4] rfl) ?_
                refine Cov.callS (b1 := []) (b2 := [_, _, _, _, _]) (s1 := []) [_, _] [] .d1 rfl rfl Try.call13 rfl rfl (make_Mod_c (G := G4125) List.mem_cons_self  hu8271) rfl (fun v8324 bo so h8323 => ?_)
                obtain ⟨rfl, rfl, rfl⟩ := h8323
                refine Cov.same (bl' := [_, _, _, _, _]) (sl' := [_]) rfl rfl rfl ?_
                refine Cov.clsL (HpLe.refl _) (pick_mem [1, 2, 3, 4] rfl) ?_
                refine Cov.dq (.build [_, _] [(0, _), (1, _)] ty40 pl40 rfl rfl) rfl ?_
                refine Cov.lit [_, _] [(0, _)] .d1 sl23 ty40 rfl rfl rfl rfl rfl rfl (fun b8325 hb8325 => ?_)
                have o8326 : OL (Rep.pair (Rep.int .i64) (Rep.int .i64)) G4125 [.int .i64 u8268, .int .i64 u8271] ([(u8268, u8271)] : List (Int × Int)) := ((OL.cons rfl (Rep.pairI (Rep.intI .i64 u8268) (Rep.intI .i64 u8271)) (OL.nil (Rp' := (Rep.pair (Rep.int .i64) (Rep.int .i64))))) :)
                refine Cov.reval 78 (n' := ([(u8268, u8271)] : List (Int × Int)).length) rfl rfl ?_
                refine Cov.clsL (HpLe.refl _) (pick_mem [1, 2, 3, 4] rfl) ?_
                refine Cov.appO (Q := (Rep.pair (Rep.int .i64) (Rep.int .i64))) 0 .d1 sl23 ty40 rfl rfl rfl rfl rfl rfl o8292 o8326 rfl rfl rfl B4127 hu8281 rfl (fun a8328 k8329 cs8330 o8331 => ?_)
                refine Cov.clsL (HpLe.refl _) (pick_mem [1, 2, 3, 4] rfl) ?_
                refine Cov.dq (.build [_, _] [(0, _), (1, _)] ty25 pl25 rfl rfl) rfl ?_
                refine Cov.store 0 [_, _] [_, _, _, _, _] .d2 rfl rfl rfl ty25 rfl rfl rfl rfl ?_
                refine Cov.draw_end ?_
                refine Cov.prune [(14, _), (8, _), (9, _), (11, _), (15, _)] ⟨rfl, rfl, rfl, rfl, rfl, trivial⟩ ?_
                refine Cov.prune _ ?_ (Cov.same rfl rfl rfl (hb8260 (b8322, u24.1.1, u8281, a8328, k8329, cs8330) ⟨o8331, r8287⟩))
                exact ⟨rfl, rfl, rfl, rfl, rfl, trivial⟩
            · refine Cov.alloc .d1 ty25 rfl (fun b8333 hb8333 => ?_)
              refine Cov.clsL (HpLe.refl _) (pick_mem [1, 2, 3, 4] rfl) ?_
              refine Cov.callS (b1 := []) (b2 := [_, _, _, _, _]) (s1 := []) [_, _] [] .d1 rfl rfl Try.call13 rfl rfl (make_Mod_c (G := G4125) List.mem_cons_self  hu8268) rfl (fun v8335 bo so h8334 => ?_)
              obtain ⟨rfl, rfl, rfl⟩ := h8334
              refine Cov.same (bl' := [_, _, _, _, _]) (sl' := [_]) rfl rfl rfl ?_
              refine Cov.clsL (HpLe.refl _) (pick_mem [1, 2, 3, 4] rfl) ?_
              refine Cov.callS (b1 := []) (b2 := [_, _, _, _, _]) (s1 := []) [_, _] [] .d1 rfl rfl Try.call13 rfl rfl (make_Mod_c (G := G4125) List.mem_cons_self  hu8271) rfl (fun v8337 bo so h8336 => ?_)
              obtain ⟨rfl, rfl, rfl⟩ := h8336
              refine Cov.same (bl' := [_, _, _, _, _]) (sl' := [_]) rfl rfl rfl ?_
              refine Cov.clsL (HpLe.refl _) (pick_mem [1, 2, 3, 4] rfl) ?_
              refine Cov.dq (.build [_, _] [(0, _), (1, _)] ty40 pl40 rfl rfl) rfl ?_
              refine Cov.lit [_, _] [(0, _)] .d1 sl23 ty40 rfl rfl rfl rfl rfl rfl (fun b8338 hb8338 => ?_)
              have o8339 : OL (Rep.pair (Rep.int .i64) (Rep.int .i64)) G4125 [.int .i64 u8268, .int .i64 u8271] ([(u8268, u8271)] : List (Int × Int)) := ((OL.cons rfl (Rep.pairI (Rep.intI .i64 u8268) (Rep.intI .i64 u8271)) (OL.nil (Rp' := (Rep.pair (Rep.int .i64) (Rep.int .i64))))) :)
              refine Cov.reval 78 (n' := ([(u8268, u8271)] : List (Int × Int)).length) rfl rfl ?_
              refine Cov.clsL (HpLe.refl _) (pick_mem [1, 2, 3, 4] rfl) ?_
              refine Cov.appO (Q := (Rep.pair (Rep.int .i64) (Rep.int .i64))) 0 .d1 sl23 ty40 rfl rfl rfl rfl rfl rfl o8292 o8339 rfl rfl rfl B4127 hu8281 rfl (fun a8341 k8342 cs8343 o8344 => ?_)
              refine Cov.clsL (HpLe.refl _) (pick_mem [1, 2, 3, 4] rfl) ?_
              refine Cov.dq (.build [_, _] [(0, _), (1, _)] ty25 pl25 rfl rfl) rfl ?_
              refine Cov.store 0 [_, _] [_, _, _, _, _] .d2 rfl rfl rfl ty25 rfl rfl rfl rfl ?_
              refine Cov.draw_end ?_
              refine Cov.prune [(14, _), (8, _), (9, _), (11, _), (15, _)] ⟨rfl, rfl, rfl, rfl, rfl, trivial⟩ ?_
              refine Cov.prune _ ?_ (Cov.same rfl rfl rfl (hb8260 (b8333, u24.1.1, u8281, a8341, k8342, cs8343) ⟨o8344, r8287⟩))
              exact ⟨rfl, rfl, rfl, rfl, rfl, trivial⟩
          · refine Cov.alloc .d1 ty25 rfl (fun b8346 hb8346 => ?_)
            refine Cov.clsL (HpLe.refl _) (pick_mem [1, 2, 3, 4] rfl) ?_
            refine Cov.own_nil 40 2 ?_
            refine Cov.appR (Q := (Rep.pair (Rep.int .i64) (Rep.int .i64))) 0 .d1 sl23 ty40 rfl rfl rfl rfl rfl (OL.nil (Rp' := (Rep.pair (Rep.int .i64) (Rep.int .i64)))) rfl rfl (SlR.mono (HpLe.trans (HpLe.trans e52 e61) e4126) s34) rfl List.mem_cons_self hu8266 rfl (fun a8348 k8349 cs8350 o8351 => ?_)
            refine Cov.clsL (HpLe.refl _) (pick_mem [1, 2, 3, 4] rfl) ?_
            refine Cov.callS (b1 := []) (b2 := [_, _, _, _, _]) (s1 := []) [_, _] [] .d1 rfl rfl Try.call13 rfl rfl (make_Mod_c (G := G4125) List.mem_cons_self  hu8268) rfl (fun v8354 bo so h8353 => ?_)
            obtain ⟨rfl, rfl, rfl⟩ := h8353
            refine Cov.same (bl' := [_, _, _, _, _]) (sl' := [_]) rfl rfl rfl ?_
            refine Cov.clsL (HpLe.refl _) (pick_mem [1, 2, 3, 4] rfl) ?_
            refine Cov.callS (b1 := []) (b2 := [_, _, _, _, _]) (s1 := []) [_, _] [] .d1 rfl rfl Try.call13 rfl rfl (make_Mod_c (G := G4125) List.mem_cons_self  hu8271) rfl (fun v8356 bo so h8355 => ?_)
            obtain ⟨rfl, rfl, rfl⟩ := h8355
            refine Cov.same (bl' := [_, _, _, _, _]) (sl' := [_]) rfl rfl rfl ?_
            refine Cov.clsL (HpLe.refl _) (pick_mem [1, 2, 3, 4] rfl) ?_
            refine Cov.dq (.build [_, _] [(0, _), (1, _)] ty40 pl40 rfl rfl) rfl ?_
            refine Cov.lit [_, _] [(0, _)] .d1 sl23 ty40 rfl rfl rfl rfl rfl rfl (fun b8357 hb8357 => ?_)
            have o8358 : OL (Rep.pair (Rep.int .i64) (Rep.int .i64)) G4125 [.int .i64 u8268, .int .i64 u8271] ([(u8268, u8271)] : List (Int × Int)) := ((OL.cons rfl (Rep.pairI (Rep.intI .i64 u8268) (Rep.intI .i64 u8271)) (OL.nil (Rp' := (Rep.pair (Rep.int .i64) (Rep.int .i64))))) :)
            refine Cov.reval 78 (n' := ([(u8268, u8271)] : List (Int × Int)).length) rfl rfl ?_
            refine Cov.clsL (HpLe.refl _) (pick_mem [1, 2, 3, 4] rfl) ?_
            refine Cov.appO (Q := (Rep.pair (Rep.int .i64) (Rep.int .i64))) 0 .d1 sl23 ty40 rfl rfl rfl rfl rfl rfl o8351 o8358 rfl rfl rfl B4127 hu8281 rfl (fun a8360 k8361 cs8362 o8363 => ?_)
            refine Cov.clsL (HpLe.refl _) (pick_mem [1, 2, 3, 4] rfl) ?_
            refine Cov.dq (.build [_, _] [(0, _), (1, _)] ty25 pl25 rfl rfl) rfl ?_
            refine Cov.store 0 [_, _] [_, _, _, _, _] .d2 rfl rfl rfl ty25 rfl rfl rfl rfl ?_
            refine Cov.draw_end ?_
            refine Cov.prune [(14, _), (8, _), (9, _), (11, _), (15, _)] ⟨rfl, rfl, rfl, rfl, rfl, trivial⟩ ?_
            refine Cov.prune _ ?_ (Cov.same rfl rfl rfl (hb8260 (b8346, u24.1.1, u8281, a8360, k8361, cs8362) ⟨o8363, r8287⟩))
            exact ⟨rfl, rfl, rfl, rfl, rfl, trivial⟩
      · intro hb12298
        refine Cov.drawL (.q 0 (.q 1 (.q 2 (.q 3 (.q 5 (.q 6 (.q 7 (.q 8 (.q 9 (.q 10 (.q 11 (.alt (.e 4 1 (.alt (.e 12 1 (.alt (.e 13 1 (.q 14 (.q 15 (.q 16 (.e 17 1 (.e 18 1 (.q 19 .nil))))))) (.e 17 1 (.e 13 1 (.q 14 (.q 15 (.q 16 (.e 18 1 (.q 19 .nil))))))))) (.e 17 1 (.e 12 1 (.e 13 1 (.q 14 (.q 15 (.q 16 (.e 18 1 (.q 19 .nil)))))))))) (.e 17 1 (.e 4 1 (.e 12 1 (.e 13 1 (.q 14 (.q 15 (.q 16 (.e 18 1 (.q 19 .nil))))))))))))))))))))) [_, _, _, _] (by kernel_rfl) (by kernel_rfl) (pick_mem [0, 1, 2, 3] rfl) ?_
        obtain ⟨u12299, hu12299, r12338⟩ := bind_some r69; clear r69
        obtain ⟨u12304, hu12304, r12339⟩ := bind_some r12338; clear r12338
        obtain ⟨u12314, hu12314, r12340⟩ := bind_some r12339; clear r12339
        obtain ⟨u12320, hu12320, r12341⟩ := bind_some r12340; clear r12340
        obtain ⟨u12327, hu12327, r12342⟩ := bind_some r12341; clear r12341
        refine Cov.dq (.load_own_a 2 [_, _] rfl rfl ty25 rfl) rfl ?_
        refine Cov.dq (.move rfl) rfl ?_
        refine Cov.dq (.move rfl) rfl ?_
        obtain ⟨a12343, k12344, h12345, s12346⟩ := SlR.sub (SlR.mono e61 s54) hu12299
        refine Cov.dq (.sliceR (SlR.mono e61 s54) rfl hu12299 sl22 ty3.sz (fun _ => .no) (fun h => .yes' rfl h) h12345) rfl ?_
        refine Cov.dq (.move rfl) rfl ?_
        refine Cov.dq (.move rfl) rfl ?_
        refine Cov.dq (.addw rfl rfl) rfl ?_
        refine Cov.dq (.move rfl) rfl ?_
        refine Cov.dq (.len_sl rfl rfl sl22) rfl ?_
        refine Cov.dq (.min2 rfl rfl) rfl ?_
        obtain ⟨a12347, k12348, h12349, s12350⟩ := SlR.sub (SlR.mono e61 s54) hu12304
        refine Cov.dq (.sliceR (SlR.mono e61 s54) rfl hu12304 sl22 ty3.sz (fun h => .yes' rfl h) (fun _ => .no) h12349) rfl ?_
        refine Cov.alt ?_ ?_
        · refine Cov.own_nil 3 1 ?_
          refine Cov.appR (Q := (Rep.int .i64)) 0 .d1 sl22 ty3 rfl rfl rfl rfl rfl (OL.nil (Rp' := (Rep.int .i64))) rfl rfl s12346 rfl List.mem_cons_self hu12314 rfl (fun a12352 k12353 cs12354 o12355 => ?_)
          refine Cov.clsL (HpLe.refl _) (pick_mem [0, 1, 2, 3] rfl) ?_
          refine Cov.alt ?_ ?_
          · refine Cov.appR (Q := (Rep.int .i64)) 0 .d1 sl22 ty3 rfl rfl rfl rfl rfl o12355 rfl rfl s12350 rfl List.mem_cons_self hu12320 rfl (fun a12357 k12358 cs12359 o12360 => ?_)
            refine Cov.clsL (HpLe.refl _) (pick_mem [0, 1, 2, 3] rfl) ?_
            refine Cov.alt ?_ ?_
            · refine Cov.freezeR 0 rfl rfl o12360 [] rfl B62 (fun G12362 e12363 B12364 s12365 => ?_)
              refine Cov.callW (b1 := []) (b2 := [_, _, _, _]) (s1 := []) [_, _] [] .d1 rfl rfl Try.call17 rfl rfl (cuckoo_Assign_c (G := G12362) List.mem_cons_self (SlR.mono (HpLe.trans (HpLe.trans e52 e61) e12363) s34) s12365 hu12327) rfl B12364 (fun v12368 bo so G12369 e12370 B12371 h12367 => ?_)
              obtain ⟨a12373, k12374, rfl, rfl, rfl, s12375⟩ := h12367
              refine Cov.same (bl' := [_, _, _, _]) (sl' := []) rfl rfl rfl ?_
              refine Cov.clsL (HpLe.trans e12363 e12370) (pick_mem [0, 1, 2, 3] rfl) ?_
              refine Cov.dq (.move rfl) rfl ?_
              refine Cov.dq (.extract rfl rfl) rfl ?_
              refine Cov.dq (.extract rfl rfl) rfl ?_
              refine Cov.alloc .d1 ty43 rfl (fun b12376 hb12376 => ?_)
              refine Cov.clsL (HpLe.trans e12363 e12370) (pick_mem [1, 2, 3, 4] rfl) ?_
              refine Cov.store 0 [_] [_, _, _, _, _] .d1 rfl rfl rfl ty43 rfl rfl rfl rfl ?_
              refine Cov.clsL (HpLe.trans e12363 e12370) (pick_mem [1, 2, 3, 4] rfl) ?_
              refine Cov.dq (.assign rfl) rfl ?_
              refine Cov.draw_end ?_
              refine Cov.prune [(5, _), (8, _), (9, _), (11, _), (14, _)] ⟨rfl, rfl, rfl, rfl, rfl, trivial⟩ ?_
              refine Cov.drop 1 0 [_, _, _, _] _ rfl rfl ?_
              refine Cov.prune _ ?_ (Cov.same rfl rfl rfl (hb12298 (G12369, u12327.2) ⟨(HpLe.trans e12363 e12370), B12371, r12342⟩))
              exact ⟨rfl, rfl, rfl, rfl, rfl, trivial⟩
            · refine Cov.alloc .d1 ty43 rfl (fun b12377 hb12377 => ?_)
              refine Cov.clsL (HpLe.refl _) (pick_mem [1, 2, 3, 4] rfl) ?_
              refine Cov.freezeR 0 rfl rfl o12360 [] rfl B62 (fun G12378 e12379 B12380 s12381 => ?_)
              refine Cov.callW (b1 := []) (b2 := [_, _, _, _, _]) (s1 := []) [_, _] [] .d1 rfl rfl Try.call17 rfl rfl (cuckoo_Assign_c (G := G12378) List.mem_cons_self (SlR.mono (HpLe.trans (HpLe.trans e52 e61) e12379) s34) s12381 hu12327) rfl B12380 (fun v12384 bo so G12385 e12386 B12387 h12383 => ?_)
              obtain ⟨a12389, k12390, rfl, rfl, rfl, s12391⟩ := h12383
              refine Cov.same (bl' := [_, _, _, _, _]) (sl' := []) rfl rfl rfl ?_
              refine Cov.clsL (HpLe.trans e12379 e12386) (pick_mem [1, 2, 3, 4] rfl) ?_
              refine Cov.dq (.move rfl) rfl ?_
              refine Cov.dq (.extract rfl rfl) rfl ?_
              refine Cov.dq (.extract rfl rfl) rfl ?_
              refine Cov.store 0 [_] [_, _, _, _, _] .d1 rfl rfl rfl ty43 rfl rfl rfl rfl ?_
              refine Cov.clsL (HpLe.trans e12379 e12386) (pick_mem [1, 2, 3, 4] rfl) ?_
              refine Cov.dq (.assign rfl) rfl ?_
              refine Cov.draw_end ?_
              refine Cov.prune [(5, _), (8, _), (9, _), (11, _), (14, _)] ⟨rfl, rfl, rfl, rfl, rfl, trivial⟩ ?_
              refine Cov.drop 1 0 [_, _, _, _] _ rfl rfl ?_
              refine Cov.prune _ ?_ (Cov.same rfl rfl rfl (hb12298 (G12385, u12327.2) ⟨(HpLe.trans e12379 e12386), B12387, r12342⟩))
              exact ⟨rfl, rfl, rfl, rfl, rfl, trivial⟩
          · refine Cov.alloc .d1 ty43 rfl (fun b12392 hb12392 => ?_)
            refine Cov.clsL (HpLe.refl _) (pick_mem [1, 2, 3, 4] rfl) ?_
            refine Cov.appR (Q := (Rep.int .i64)) 0 .d1 sl22 ty3 rfl rfl rfl rfl rfl o12355 rfl rfl s12350 rfl List.mem_cons_self hu12320 rfl (fun a12393 k12394 cs12395 o12396 => ?_)
            refine Cov.clsL (HpLe.refl _) (pick_mem [1, 2, 3, 4] rfl) ?_
            refine Cov.freezeR 0 rfl rfl o12396 [] rfl B62 (fun G12398 e12399 B12400 s12401 => ?_)
            refine Cov.callW (b1 := []) (b2 := [_, _, _, _, _]) (s1 := []) [_, _] [] .d1 rfl rfl Try.call17 rfl rfl (cuckoo_Assign_c (G := G12398) List.mem_cons_self (SlR.mono (HpLe.trans (HpLe.trans e52 e61) e12399) s34) s12401 hu12327) rfl B12400 (fun v12404 bo so G12405 e12406 B12407 h12403 => ?_)
            obtain ⟨a12409, k12410, rfl, rfl, rfl, s12411⟩ := h12403
            refine Cov.same (bl' := [_, _, _, _, _]) (sl' := []) rfl rfl rfl ?_
            refine Cov.clsL (HpLe.trans e12399 e12406) (pick_mem [1, 2, 3, 4] rfl) ?_
            refine Cov.dq (.move rfl) rfl ?_
            refine Cov.dq (.extract rfl rfl) rfl ?_
            refine Cov.dq (.extract rfl rfl) rfl ?_
            refine Cov.store 0 [_] [_, _, _, _, _] .d1 rfl rfl rfl ty43 rfl rfl rfl rfl ?_
            refine Cov.clsL (HpLe.trans e12399 e12406) (pick_mem [1, 2, 3, 4] rfl) ?_
            refine Cov.dq (.assign rfl) rfl ?_
            refine Cov.draw_end ?_
            refine Cov.prune [(5, _), (8, _), (9, _), (11, _), (14, _)] ⟨rfl, rfl, rfl, rfl, rfl, trivial⟩ ?_
            refine Cov.drop 1 0 [_, _, _, _] _ rfl rfl ?_
            refine Cov.prune _ ?_ (Cov.same rfl rfl rfl (hb12298 (G12405, u12327.2) ⟨(HpLe.trans e12399 e12406), B12407, r12342⟩))
            exact ⟨rfl, rfl, rfl, rfl, rfl, trivial⟩
        · refine Cov.alloc .d1 ty43 rfl (fun b12412 hb12412 => ?_)
          refine Cov.clsL (HpLe.refl _) (pick_mem [1, 2, 3, 4] rfl) ?_
          refine Cov.own_nil 3 1 ?_
          refine Cov.appR (Q := (Rep.int .i64)) 0 .d1 sl22 ty3 rfl rfl rfl rfl rfl (OL.nil (Rp' := (Rep.int .i64))) rfl rfl s12346 rfl List.mem_cons_self hu12314 rfl (fun a12414 k12415 cs12416 o12417 => ?_)
          refine Cov.clsL (HpLe.refl _) (pick_mem [1, 2, 3, 4] rfl) ?_
          refine Cov.appR (Q := (Rep.int .i64)) 0 .d1 sl22 ty3 rfl rfl rfl rfl rfl o12417 rfl rfl s12350 rfl List.mem_cons_self hu12320 rfl (fun a12419 k12420 cs12421 o12422 => ?_)
          refine Cov.clsL (HpLe.refl _) (pick_mem [1, 2, 3, 4] rfl) ?_
          refine Cov.freezeR 0 rfl rfl o12422 [] rfl B62 (fun G12424 e12425 B12426 s12427 => ?_)
          refine Cov.callW (b1 := []) (b2 := [_, _, _, _, _]) (s1 := []) [_, _] [] .d1 rfl rfl Try.call17 rfl rfl (cuckoo_Assign_c (G := G12424) List.mem_cons_self (SlR.mono (HpLe.trans (HpLe.trans e52 e61) e12425) s34) s12427 hu12327) rfl B12426 (fun v12430 bo so G12431 e12432 B12433 h12429 => ?_)
          obtain ⟨a12435, k12436, rfl, rfl, rfl, s12437⟩ := h12429
          refine Cov.same (bl' := [_, _, _, _, _]) (sl' := []) rfl rfl rfl ?_
          refine Cov.clsL (HpLe.trans e12425 e12432) (pick_mem [1, 2, 3, 4] rfl) ?_
          refine Cov.dq (.move rfl) rfl ?_
          refine Cov.dq (.extract rfl rfl) rfl ?_
          refine Cov.dq (.extract rfl rfl) rfl ?_
          refine Cov.store 0 [_] [_, _, _, _, _] .d1 rfl rfl rfl ty43 rfl rfl rfl rfl ?_
          refine Cov.clsL (HpLe.trans e12425 e12432) (pick_mem [1, 2, 3, 4] rfl) ?_
          refine Cov.dq (.assign rfl) rfl ?_
          refine Cov.draw_end ?_
          refine Cov.prune [(5, _), (8, _), (9, _), (11, _), (14, _)] ⟨rfl, rfl, rfl, rfl, rfl, trivial⟩ ?_
          refine Cov.drop 1 0 [_, _, _, _] _ rfl rfl ?_
          refine Cov.prune _ ?_ (Cov.same rfl rfl rfl (hb12298 (G12431, u12327.2) ⟨(HpLe.trans e12425 e12432), B12433, r12342⟩))
          exact ⟨rfl, rfl, rfl, rfl, rfl, trivial⟩

end Go.Proofs.Ytbhmhindommaeaa
