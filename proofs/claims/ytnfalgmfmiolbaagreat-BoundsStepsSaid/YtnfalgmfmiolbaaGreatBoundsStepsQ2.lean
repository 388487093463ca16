/- What the proof needs, gathered by wip/gen/shake.py. -/
import Derived.Calls
import Derived.Deep.Quiet
import Derived.Below
import Derived.Laws.AppendOwn
import Derived.WalkKit
import Derived.Laws.OwnMore
import Derived.Deep.Slices
import Derived.ChangeOld
import Derived.ArgAppend
import Derived.RangeFuncIn
import Derived.RangeFuncRecord
import Derived.RangeFuncLeaves
import Derived.Laws.MakeOwn
import Derived.IntWalk
import Derived.Laws.IdiomStrings
import Derived.Laws.Cover3
import Derived.Laws.CopyOwn
import Derived.MapKept
import Derived.RangeFuncNested
import Derived.Test.YtnfalgmfmiolbaaGreatRows
import Derived.ProofKit
import Derived.OpenShut
import Derived.ShutString
import Derived.Test.YtnfalgmfmiolbaaGreatBoundsStepsQ1

section
namespace Go.Proofs.YtnfalgmfmiolbaaGreat
set_option linter.unusedVariables false
set_option synthInstance.maxSize 2000
set_option synthInstance.maxHeartbeats 400000
def ifc250 (x : (Sum Int (Sum (Int × Int) (Int × Int × Int)))) : Value := match x with
  | (Sum.inl x) => .iface 291 (.agg #[.int .i64 x])
  | (Sum.inr (Sum.inl x)) => .iface 292 (.agg #[.int .i64 x.1, .int .i64 x.2])
  | (Sum.inr (Sum.inr x)) => .iface 293 (.agg #[.int .i64 x.1, .int .i64 x.2.1, .int .i64 x.2.2])
def scheme_within (x0 : Int) (x1 : Int) (x2 : Int) : Option Bool :=
  some (decide ((x1 ≤ x0) ∧ (x0 ≤ x2)))
def scheme_Shape (x0 : (Int × Int × Int × Int)) : Option Bool :=
  (scheme_within x0.2.1 2 10).bind fun u2 => if ((!u2) = true) then (some false) else
 if (x0.1 = 1) then (some (decide ((x0.2.2.1 = 0) ∧ (x0.2.2.2 = 0)))) else
 if (x0.1 = 2) then ((scheme_within x0.2.2.1 1 (w64 (x0.2.1 - 1))).bind fun u18 => some (decide ((u18 = true) ∧ (x0.2.2.2 = 0)))) else
 if (x0.1 = 3) then ((scheme_within x0.2.2.1 1 x0.2.1).bind fun u29 => (if (u29 = true) then ((scheme_within x0.2.2.2 1 x0.2.1).bind fun u49 => some u49) else some false).bind fun u39 => some (decide ((u39 = true) ∧ ((w64 ((w64 ((w64 (2 * x0.2.2.2)) + x0.2.2.1)) - 1)) ≤ x0.2.1)))) else
 some false
def residue_Of_J1 (v36 : Int) : Option (Int × Bool) :=
  some (v36, true)
def residue_Of_B2 (kx37 : Int → Option (Int × Bool)) (z56 : Int) (rec52 : Int → Option (Int × Bool)) (v53 : Int) : Option (Int × Bool) :=
  if ((w64 (v53 * v53)) ≤ z56) then ((nz v53).bind fun _ => if ((Int.tmod z56 v53) = 0) then (some (0, false)) else
 rec52 (w64 (v53 + 1))) else
 kx37 z56
def residue_Of_L2 (kx37 : Int → Option (Int × Bool)) (z56 : Int) : Nat → Int → Option (Int × Bool)
  | 0, _ => none
  | n + 1, v53 => residue_Of_B2 kx37 z56 (residue_Of_L2 kx37 z56 n) v53
def residue_Of (x0 : Int) : Option (Int × Bool) :=
  if ((x0 < 2) ∨ (65521 < x0)) then (some (0, false)) else
 residue_Of_L2 residue_Of_J1 x0 big 2
def field_Check (x0 : Int) : Option Int :=
  (residue_Of x0).bind fun u2 => if ((!u2.2) = true) then (some 9) else
 some 0
def scheme_Valid (x0 : (Int × Int × Int × Int)) (x1 : Int) : Option Bool :=
  (scheme_Shape x0).bind fun u3 => (if (u3 = true) then ((field_Check x1).bind fun u31 => some (decide (u31 = 0))) else some false).bind fun u13 => some (decide ((u13 = true) ∧ ((x0.1 = 1) ∨ (x0.2.1 < x1))))
def wish_within (x0 : Int) (x1 : Int) (x2 : Int) : Option Bool :=
  some (decide ((x1 ≤ x0) ∧ (x0 ≤ x2)))
def scheme_look (x0 : (Int × Int × Int × Int)) (x1 : Int) (x2 : Int) : Option Int :=
  (scheme_Valid x0 x1).bind fun u3 => if ((!u3) = true) then (some 40) else
(scheme_within x2 1 1024).bind fun u10 => if ((!u10) = true) then (some 1) else
 some 0
def scheme_storage (x0 : (Int × Int × Int × Int)) : Option (Int × Int × Int) :=
  some x0.2
def scheme_kindOf (x0 : (Int × Int × Int × Int)) : Option (Sum Int (Sum (Int × Int) (Int × Int × Int))) :=
  if (x0.1 = 1) then (some (Sum.inl x0.2.1)) else
 if (x0.1 = 2) then (some (Sum.inr (Sum.inl (x0.2.1, x0.2.2.1)))) else
(scheme_storage x0).bind fun u8 => some (Sum.inr (Sum.inr u8))
def parity_check (x0 : Int) (x1 : Int) (x2 : Int) : Option Int :=
  (residue_Of x0).bind fun u2 => if ((!u2.2) = true) then (some 9) else
 if ((((x2 < 2) ∨ (10 < x2)) ∨ (x1 < 1)) ∨ (1024 < x1)) then (some 1) else
 some 0
def parity_Limits_B1 (z59 : Int) (z60 : Int) (rec49 : (List Int) → Int → Option ((List Int) × Int)) (v50 : List Int) (v56 : Int) : Option ((List Int) × Int) :=
  if (v56 < z59) then ((lapp v50 ([z60] : List Int)).bind fun u72 => rec49 u72 (w64 (v56 + 1))) else
 some (v50, 0)
def parity_Limits_L1 (z59 : Int) (z60 : Int) : Nat → (List Int) → Int → Option ((List Int) × Int)
  | 0, _, _ => none
  | n + 1, v50, v56 => parity_Limits_B1 z59 z60 (parity_Limits_L1 z59 z60 n) v50 v56
def parity_Limits (x0 : Int) (x1 : Int) (x2 : Int) : Option ((List Int) × Int) :=
  (parity_check x0 x1 x2).bind fun u2 => if (u2 ≠ 0) then (some (([] : List Int), u2)) else
 parity_Limits_L1 (w64 (x1 * (w64 (x2 - 1)))) x0 big ([] : List Int) 0
def scheme_sums_limits (x0 : Int) (x1 : Int) (x2 : Int) : Option ((List Int) × Int) :=
  (parity_Limits x1 x2 x0).bind fun u3 => some (u3.1, u3.2)
def curve_valid (x0 : (Int × Int)) : Option Bool :=
  some (decide ((((2 ≤ x0.1) ∧ (x0.1 ≤ 10)) ∧ (1 ≤ x0.2)) ∧ (x0.2 < x0.1)))
def curve_Check (x0 : Int) (x1 : (Int × Int)) : Option Int :=
  (residue_Of x0).bind fun u3 => if ((!u3.2) = true) then (some 9) else
(curve_valid x1).bind fun u10 => if (((!u10) = true) ∨ (x0 ≤ x1.1)) then (some 1) else
 some 0
def curve_check (x0 : Int) (x1 : (Int × Int)) (x2 : Int) : Option Int :=
  (curve_Check x0 x1).bind fun u3 => if ((u3 = 0) ∧ ((x2 < 1) ∨ (1024 < x2))) then (some 1) else
 some u3
def curve_Limits_B1 (z64 : Int) (z67 : Int) (rec54 : (List Int) → Int → Option ((List Int) × Int)) (v55 : List Int) (v61 : Int) : Option ((List Int) × Int) :=
  if (v61 < z64) then ((lapp v55 ([z67] : List Int)).bind fun u79 => rec54 u79 (w64 (v61 + 1))) else
 some (v55, 0)
def curve_Limits_L1 (z64 : Int) (z67 : Int) : Nat → (List Int) → Int → Option ((List Int) × Int)
  | 0, _, _ => none
  | n + 1, v55, v61 => curve_Limits_B1 z64 z67 (curve_Limits_L1 z64 z67 n) v55 v61
def curve_Limits (x0 : Int) (x1 : (Int × Int)) (x2 : Int) : Option ((List Int) × Int) :=
  (curve_check x0 x1 x2).bind fun u3 => if (u3 ≠ 0) then (some (([] : List Int), u3)) else
 curve_Limits_L1 (w64 (x2 * x1.2)) x0 big ([] : List Int) 0
def scheme_curves_limits (x0 : (Int × Int)) (x1 : Int) (x2 : Int) : Option ((List Int) × Int) :=
  (curve_Limits x1 x0 x2).bind fun u3 => some (u3.1, u3.2)
def scheme_groups_units (x0 : (Int × Int × Int)) (x1 : Int) : Option Int :=
  (nz x0.2.2).bind fun _ => some (w64 (Int.tdiv (w64 ((w64 (x1 + x0.2.2)) - 1)) x0.2.2))
def coded_Check (x0 : Int) (x1 : (Int × Int × Int)) : Option Int :=
  (residue_Of x0).bind fun u3 => if ((!u3.2) = true) then (some 9) else
 if ((((((((x1.1 < 2) ∨ (10 < x1.1)) ∨ (x0 ≤ x1.1)) ∨ (x1.2.1 < 1)) ∨ (x1.2.2 < 1)) ∨ (x1.1 < x1.2.1)) ∨ (x1.1 < x1.2.2)) ∨ (x1.1 < (w64 ((w64 ((w64 (2 * x1.2.2)) + x1.2.1)) - 1)))) then (some 1) else
 some 0
def coded_check (x0 : Int) (x1 : (Int × Int × Int)) (x2 : Int) : Option Int :=
  (coded_Check x0 x1).bind fun u3 => if ((u3 = 0) ∧ ((x2 < 1) ∨ (1024 < x2))) then (some 1) else
 some u3
def coded_Limits_B1 (z66 : Int) (z70 : Int) (rec56 : (List Int) → Int → Option ((List Int) × Int)) (v57 : List Int) (v63 : Int) : Option ((List Int) × Int) :=
  if (v63 < z66) then ((lapp v57 ([z70] : List Int)).bind fun u82 => rec56 u82 (w64 (v63 + 1))) else
 some (v57, 0)
def coded_Limits_L1 (z66 : Int) (z70 : Int) : Nat → (List Int) → Int → Option ((List Int) × Int)
  | 0, _, _ => none
  | n + 1, v57, v63 => coded_Limits_B1 z66 z70 (coded_Limits_L1 z66 z70 n) v57 v63
def coded_Limits (x0 : Int) (x1 : (Int × Int × Int)) (x2 : Int) : Option ((List Int) × Int) :=
  (coded_check x0 x1 x2).bind fun u3 => if (u3 ≠ 0) then (some (([] : List Int), u3)) else
 coded_Limits_L1 (w64 (x2 * x1.2.1)) x0 big ([] : List Int) 0
def scheme_groups_limits (x0 : (Int × Int × Int)) (x1 : Int) (x2 : Int) : Option ((List Int) × Int) :=
  (scheme_groups_units x0 x2).bind fun u3 => (coded_Limits x1 x0 u3).bind fun u7 => some (u7.1, u7.2)
def scheme_Limits (x0 : (Int × Int × Int × Int)) (x1 : Int) (x2 : Int) : Option ((List Int) × Int) :=
  (scheme_look x0 x1 x2).bind fun u3 => if (u3 ≠ 0) then (some (([] : List Int), u3)) else
(scheme_kindOf x0).bind fun u11 => match u11 with
| (Sum.inl w15) => ((scheme_sums_limits w15 x1 x2).bind fun u19 => some (u19.1, u19.2))
| (Sum.inr (Sum.inl w28)) => ((scheme_curves_limits w28 x1 x2).bind fun u32 => some (u32.1, u32.2))
| (Sum.inr (Sum.inr w29)) => ((scheme_groups_limits w29 x1 x2).bind fun u45 => some (u45.1, u45.2))
def math_bits_Mul64 (x0 : Int) (x1 : Int) : Option (Int × Int) :=
  some ((IntKind.u64.wrap ((IntKind.u64.wrap ((IntKind.u64.wrap ((shrI .u64 x0 32) * (shrI .u64 x1 32))) + (shrI .u64 (IntKind.u64.wrap ((IntKind.u64.wrap ((shrI .u64 x0 32) * (andI .u64 x1 4294967295))) + (shrI .u64 (IntKind.u64.wrap ((andI .u64 x0 4294967295) * (andI .u64 x1 4294967295))) 32))) 32))) + (shrI .u64 (IntKind.u64.wrap ((andI .u64 (IntKind.u64.wrap ((IntKind.u64.wrap ((shrI .u64 x0 32) * (andI .u64 x1 4294967295))) + (shrI .u64 (IntKind.u64.wrap ((andI .u64 x0 4294967295) * (andI .u64 x1 4294967295))) 32))) 4294967295) + (IntKind.u64.wrap ((andI .u64 x0 4294967295) * (shrI .u64 x1 32))))) 32))), (IntKind.u64.wrap (x0 * x1)))
def math_bits_Mul (x0 : Int) (x1 : Int) : Option (Int × Int) :=
  (math_bits_Mul64 x0 x1).bind fun u1 => some (u1.1, u1.2)
def slices_Repeat_Lintint_B1 (rec56 : Int → (List Int) → Option (List Int)) (v57 : Int) (v58 : List Int) : Option (List Int) :=
  if (v57 < (v58.length : Int)) then ((psub 0 (v58.length : Int) v57 ((v58.length : Int) - 0)).bind fun u71 => (psub 0 (v58.length : Int) 0 v57).bind fun u74 => (lsub v58 u71.1 u71.2).bind fun u76 => (lsub v58 u74.1 u74.2).bind fun u78 => rec56 (w64 (v57 + ((min u78.length u76.length : Nat) : Int))) (lcpy v58 u71.1 u76.length u78)) else
 some v58
def slices_Repeat_Lintint_L1 : Nat → Int → (List Int) → Option (List Int)
  | 0, _, _ => none
  | n + 1, v57, v58 => slices_Repeat_Lintint_B1 (slices_Repeat_Lintint_L1 n) v57 v58
def slices_Repeat_Lintint_J2 (z23 : List Int) (z24 : Int) : Option (List Int) :=
  (lmk (w64 z24) 0).bind fun u25 => (lsub u25 0 (u25.length : Int)).bind fun u32 => slices_Repeat_Lintint_L1 big ((min z23.length u32.length : Nat) : Int) (lcpy u25 0 u32.length z23)
def slices_Repeat_Lintint_J3 (z7 : List Int) (z8 : Int) : Option (List Int) :=
  (math_bits_Mul (IntKind.u64.wrap (z7.length : Int)) (IntKind.u64.wrap z8)).bind fun u9 => if ((0 < u9.1) ∨ (9223372036854775807 < u9.2)) then (none) else
(slices_Repeat_Lintint_J2 z7 u9.2)
def slices_Repeat_Lintint (x0 : (List Int)) (x1 : Int) : Option (List Int) :=
  if (x1 < 0) then (none) else
(slices_Repeat_Lintint_J3 x0 x1)
def wish_Limits (x0 : (Int × Int × Int × Int)) (x1 : Int) (x2 : Int) (x3 : Int) : Option ((List Int) × Int) :=
  (scheme_Valid x0 x1).bind fun u3 => if ((!u3) = true) then (some (([] : List Int), 40)) else
(wish_within x3 1 16).bind fun u11 => (if ((!u11) = true) then (some true) else (wish_within x2 1 1024).bind fun u59 => some (!u59)).bind fun u21 => if (u21 = true) then (some (([] : List Int), 41)) else
(scheme_Limits x0 x1 x2).bind fun u30 => if (u30.2 ≠ 0) then (some (([] : List Int), u30.2)) else
(slices_Repeat_Lintint u30.1 x3).bind fun u48 => some (u48, 0)
def bounds_Draws (x0 : (Int × Int × Int × Int)) (x1 : Int) (x2 : Int) (x3 : Int) : Option (Int × Int) :=
  (wish_Limits x0 x1 x2 x3).bind fun u3 => some ((u3.1.length : Int), u3.2)
def bounds_asked (x0 : (Int × Int × Int × Int)) (x1 : Int) : Option Int :=
  some (w64 (x1 * x0.2.1))
def bounds_Notes (x0 : (Int × Int × Int × Int)) (x1 : Int) : Option Int :=
  (bounds_asked x0 x1).bind fun u2 => some (w64 (2 * u2))
def bounds_Words (x0 : (Int × Int × Int × Int)) (x1 : Int) (x2 : Int) : Option Int :=
  (bounds_asked x0 x2).bind fun u2 => some (w64 (u2 * x1))
def bounds_Steps (x0 : (Int × Int × Int × Int)) (x1 : Int) (x2 : Int) : Option Int :=
  (bounds_Notes x0 x2).bind fun u2 => (bounds_Words x0 x1 x2).bind fun u6 => some (w64 (u2 + u6))
def law43_sane : Option Bool :=
  (bounds_Draws (1, 3, 0, 0) 2 4 2).bind fun u2 => (bounds_Notes (1, 3, 0, 0) 1).bind fun u6 => (if (u6 = 6) then ((bounds_Words (1, 3, 0, 0) 2 1).bind fun u47 => some (decide (u47 = 6))) else some false).bind fun u16 => (if (u16 = true) then ((bounds_Steps (1, 3, 0, 0) 2 1).bind fun u41 => some (decide (u41 = 12))) else some false).bind fun u27 => some (decide (((u27 = true) ∧ (u2.2 = 0)) ∧ (u2.1 = 16)))
def play_New_J1 (v11 : List Int) : Option ((List Int) × Int) :=
  some (v11, 0)
def play_New (x0 : (List Int)) : Option ((List Int) × Int) :=
  if (300 < (x0.length : Int)) then ((lsub x0 0 300).bind fun u21 => play_New_J1 u21) else
 play_New_J1 x0
def play_Mod (x0 : Int) (x1 : Int) : Option Int :=
  (nz x1).bind fun _ => if ((Int.tmod x0 x1) < 0) then (some (w64 ((Int.tmod x0 x1) + x1))) else
 some (Int.tmod x0 x1)
def play_Dice_Pick (x0 : ((List Int) × Int)) (x1 : Int) : Option (Int × ((List Int) × Int)) :=
  if ((x0.1.length : Int) ≤ x0.2) then (some (0, x0)) else
(lidx x0.1 (w64 ((w64 (x0.2 + 1)) - 1))).bind fun u4 => (nz x1).bind fun _ => some ((Int.tmod (w64 u4) x1), (x0.1, (w64 (x0.2 + 1))))
def play_Dice_Scheme (x0 : ((List Int) × Int)) : Option ((Int × Int × Int × Int) × ((List Int) × Int)) :=
  (play_Dice_Pick x0 4).bind fun u2 => (play_Dice_Pick u2.2 3).bind fun u9 => if (u9.1 = 0) then (some ((1, (w64 (3 + u2.1)), 0, 0), u9.2)) else
 if (u9.1 = 1) then ((play_Dice_Pick u9.2 2).bind fun u21 => some ((2, (w64 (3 + u2.1)), (w64 (1 + u21.1)), 0), u21.2)) else
(if ((w64 (3 + u2.1)) < 4) then (some (true, u9.2.1, u9.2.2)) else (play_Dice_Pick u9.2 2).bind fun u59 => some ((decide (u59.1 = 0)), u59.2.1, u59.2.2)).bind fun u39 => if (u39.1 = true) then ((play_Dice_Pick u39.2 2).bind fun u49 => some ((3, (w64 (3 + u2.1)), (w64 (1 + u49.1)), 1), u49.2)) else
 some ((3, (w64 (3 + u2.1)), 1, 2), u39.2)
def ref43_Notes (x0 : (Int × Int × Int × Int)) (x1 : Int) : Option Int :=
  some (w64 ((w64 (2 * x1)) * x0.2.1))
def ref43_Words (x0 : (Int × Int × Int × Int)) (x1 : Int) (x2 : Int) : Option Int :=
  some (w64 ((w64 (x2 * x0.2.1)) * x1))
def ref43_Steps (x0 : (Int × Int × Int × Int)) (x1 : Int) (x2 : Int) : Option Int :=
  (ref43_Notes x0 x2).bind fun u2 => (ref43_Words x0 x1 x2).bind fun u6 => some (w64 (u2 + u6))
def play_Dice_Odd_J1 (v4092 : List Int) (v4096 : Int) (v4097 : Int) (v4098 : Int) (v4099 : Int) (v4100 : Int) : Option ((Int × Int × Int × Int) × ((List Int) × Int)) :=
  some ((v4097, v4098, v4099, v4100), (v4092, v4096))
def play_Dice_Odd (x0 : ((List Int) × Int)) : Option ((Int × Int × Int × Int) × ((List Int) × Int)) :=
  (play_Dice_Scheme x0).bind fun u2 => (play_Dice_Pick u2.2 6).bind fun u10 => if (u10.1 = 0) then ((play_Dice_Pick u10.2 6).bind fun u4106 => play_Dice_Odd_J1 u4106.2.1 u4106.2.2 u4106.1 u2.1.2.1 u2.1.2.2.1 u2.1.2.2.2) else
 if (u10.1 = 1) then ((play_Dice_Pick u10.2 6).bind fun u4119 => (lidx ([0, 1, 2, 10, 11, (-1)] : List Int) u4119.1).bind fun u4126 => play_Dice_Odd_J1 u4119.2.1 u4119.2.2 u2.1.1 u4126 u2.1.2.2.1 u2.1.2.2.2) else
 if (u10.1 = 2) then ((play_Dice_Pick u10.2 4).bind fun u4137 => (lidx ([0, (-1), (w64 (u2.1.2.1 - 1)), u2.1.2.1] : List Int) u4137.1).bind fun u4143 => play_Dice_Odd_J1 u4137.2.1 u4137.2.2 u2.1.1 u2.1.2.1 u4143 u2.1.2.2.2) else
 if (u10.1 = 3) then ((play_Dice_Pick u10.2 4).bind fun u8165 => (lidx ([0, 1, 3, (-1)] : List Int) u8165.1).bind fun u8172 => play_Dice_Odd_J1 u8165.2.1 u8165.2.2 u2.1.1 u2.1.2.1 u2.1.2.2.1 u8172) else
 play_Dice_Odd_J1 u10.2.1 u10.2.2 u2.1.1 u2.1.2.1 u2.1.2.2.1 u2.1.2.2.2
def play_Dice_Field (x0 : ((List Int) × Int)) : Option (Int × ((List Int) × Int)) :=
  (play_Dice_Pick x0 4).bind fun u5 => (lidx ([7, 11, 13, 257] : List Int) u5.1).bind fun u12 => some (u12, u5.2)
def ref03_Check_B1 (z25 : Int) (rec21 : Int → Option Int) (v22 : Int) : Option Int :=
  if ((w64 (v22 * v22)) ≤ z25) then ((nz v22).bind fun _ => if ((Int.tmod z25 v22) = 0) then (some 9) else
 rec21 (w64 (v22 + 1))) else
 some 0
def ref03_Check_L1 (z25 : Int) : Nat → Int → Option Int
  | 0, _ => none
  | n + 1, v22 => ref03_Check_B1 z25 (ref03_Check_L1 z25 n) v22
def ref03_Check (x0 : Int) : Option Int :=
  if ((x0 < 2) ∨ (65521 < x0)) then (some 9) else
 ref03_Check_L1 x0 big 2
def ref23_Shape (x0 : (Int × Int × Int × Int)) : Option Bool :=
  if ((x0.2.1 < 2) ∨ (10 < x0.2.1)) then (some false) else
 if (x0.1 = 1) then (some (decide ((x0.2.2.1 = 0) ∧ (x0.2.2.2 = 0)))) else
 if (x0.1 = 2) then (some (decide (((1 ≤ x0.2.2.1) ∧ (x0.2.2.1 ≤ (w64 (x0.2.1 - 1)))) ∧ (x0.2.2.2 = 0)))) else
 if (x0.1 = 3) then (some (decide (((((1 ≤ x0.2.2.1) ∧ (1 ≤ x0.2.2.2)) ∧ (x0.2.2.1 ≤ 10)) ∧ (x0.2.2.2 ≤ 10)) ∧ ((w64 ((w64 ((w64 (2 * x0.2.2.2)) + x0.2.2.1)) - 1)) ≤ x0.2.1)))) else
 some false
def ref23_Valid (x0 : (Int × Int × Int × Int)) (x1 : Int) : Option Bool :=
  (ref23_Shape x0).bind fun u3 => (if (u3 = true) then ((ref03_Check x1).bind fun u31 => some (decide (u31 = 0))) else some false).bind fun u13 => some (decide ((u13 = true) ∧ ((x0.1 = 1) ∨ (x0.2.1 < x1))))
def ref16_Limits_B1 (z75 : Int) (z76 : Int) (rec65 : (List Int) → Int → Option ((List Int) × Int)) (v66 : List Int) (v72 : Int) : Option ((List Int) × Int) :=
  if (v72 < z75) then ((lapp v66 ([z76] : List Int)).bind fun u88 => rec65 u88 (w64 (v72 + 1))) else
 some (v66, 0)
def ref16_Limits_L1 (z75 : Int) (z76 : Int) : Nat → (List Int) → Int → Option ((List Int) × Int)
  | 0, _, _ => none
  | n + 1, v66, v72 => ref16_Limits_B1 z75 z76 (ref16_Limits_L1 z75 z76 n) v66 v72
def ref16_Limits (x0 : Int) (x1 : Int) (x2 : Int) : Option ((List Int) × Int) :=
  (ref03_Check x0).bind fun u2 => if (u2 ≠ 0) then (some (([] : List Int), u2)) else
 if ((((x2 < 2) ∨ (10 < x2)) ∨ (x1 < 1)) ∨ (1024 < x1)) then (some (([] : List Int), 1)) else
 ref16_Limits_L1 (w64 (x1 * (w64 (x2 - 1)))) x0 big ([] : List Int) 0
def ref17_Check (x0 : Int) (x1 : (Int × Int)) : Option Int :=
  (ref03_Check x0).bind fun u3 => if (u3 ≠ 0) then (some u3) else
 if (((((x1.1 < 2) ∨ (10 < x1.1)) ∨ (x0 ≤ x1.1)) ∨ (x1.2 < 1)) ∨ ((w64 (x1.1 - 1)) < x1.2)) then (some 1) else
 some 0
def ref17_Limits_B1 (z72 : Int) (z75 : Int) (rec62 : (List Int) → Int → Option ((List Int) × Int)) (v63 : List Int) (v69 : Int) : Option ((List Int) × Int) :=
  if (v69 < z72) then ((lapp v63 ([z75] : List Int)).bind fun u87 => rec62 u87 (w64 (v69 + 1))) else
 some (v63, 0)
def ref17_Limits_L1 (z72 : Int) (z75 : Int) : Nat → (List Int) → Int → Option ((List Int) × Int)
  | 0, _, _ => none
  | n + 1, v63, v69 => ref17_Limits_B1 z72 z75 (ref17_Limits_L1 z72 z75 n) v63 v69
def ref17_Limits (x0 : Int) (x1 : (Int × Int)) (x2 : Int) : Option ((List Int) × Int) :=
  (ref17_Check x0 x1).bind fun u3 => if (u3 ≠ 0) then (some (([] : List Int), u3)) else
 if ((x2 < 1) ∨ (1024 < x2)) then (some (([] : List Int), 1)) else
 ref17_Limits_L1 (w64 (x2 * x1.2)) x0 big ([] : List Int) 0
def ref23_plan (x0 : (Int × Int × Int × Int)) : Option (Int × Int) :=
  some (x0.2.1, x0.2.2.1)
def ref18_Check (x0 : Int) (x1 : (Int × Int × Int)) : Option Int :=
  (ref03_Check x0).bind fun u3 => if (u3 ≠ 0) then (some u3) else
 if ((((((((x1.1 < 2) ∨ (10 < x1.1)) ∨ (x0 ≤ x1.1)) ∨ (x1.2.1 < 1)) ∨ (x1.1 < x1.2.1)) ∨ (x1.2.2 < 1)) ∨ (x1.1 < x1.2.2)) ∨ (x1.1 < (w64 ((w64 ((w64 (2 * x1.2.2)) + x1.2.1)) - 1)))) then (some 1) else
 some 0
def ref18_Limits_B1 (z74 : Int) (z78 : Int) (rec64 : (List Int) → Int → Option ((List Int) × Int)) (v65 : List Int) (v71 : Int) : Option ((List Int) × Int) :=
  if (v71 < z74) then ((lapp v65 ([z78] : List Int)).bind fun u90 => rec64 u90 (w64 (v71 + 1))) else
 some (v65, 0)
def ref18_Limits_L1 (z74 : Int) (z78 : Int) : Nat → (List Int) → Int → Option ((List Int) × Int)
  | 0, _, _ => none
  | n + 1, v65, v71 => ref18_Limits_B1 z74 z78 (ref18_Limits_L1 z74 z78 n) v65 v71
def ref18_Limits (x0 : Int) (x1 : (Int × Int × Int)) (x2 : Int) : Option ((List Int) × Int) :=
  (ref18_Check x0 x1).bind fun u3 => if (u3 ≠ 0) then (some (([] : List Int), u3)) else
 if ((x2 < 1) ∨ (1024 < x2)) then (some (([] : List Int), 1)) else
 ref18_Limits_L1 (w64 (x2 * x1.2.1)) x0 big ([] : List Int) 0
def ref23_storage (x0 : (Int × Int × Int × Int)) : Option (Int × Int × Int) :=
  some x0.2
def ref23_Units (x0 : (Int × Int × Int × Int)) (x1 : Int) : Option Int :=
  (ref23_Shape x0).bind fun u2 => if ((((!u2) = true) ∨ (x1 < 1)) ∨ (1024 < x1)) then (some 0) else
 if (x0.1 = 3) then ((nz x0.2.2.2).bind fun _ => some (w64 (Int.tdiv (w64 ((w64 (x1 + x0.2.2.2)) - 1)) x0.2.2.2))) else
 some x1
def ref23_Limits (x0 : (Int × Int × Int × Int)) (x1 : Int) (x2 : Int) : Option ((List Int) × Int) :=
  (ref23_Valid x0 x1).bind fun u3 => if ((!u3) = true) then (some (([] : List Int), 40)) else
 if ((x2 < 1) ∨ (1024 < x2)) then (some (([] : List Int), 1)) else
 if (x0.1 = 1) then ((ref16_Limits x1 x2 x0.2.1).bind fun u21 => some (u21.1, u21.2)) else
 if (x0.1 = 2) then ((ref23_plan x0).bind fun u33 => (ref17_Limits x1 u33 x2).bind fun u37 => some (u37.1, u37.2)) else
(ref23_storage x0).bind fun u47 => (ref23_Units x0 x2).bind fun u51 => (ref18_Limits x1 u47 u51).bind fun u55 => some (u55.1, u55.2)
def ref24_Limits_B1 (z104 : Int) (z105 : Int) (z106 : Int) (z107 : Int) (z108 : Int) (z109 : Int) (z110 : Int) (rec94 : (List Int) → Int → Option ((List Int) × Int)) (v95 : List Int) (v101 : Int) : Option ((List Int) × Int) :=
  if (v101 < z105) then ((ref23_Limits (z107, z108, z109, z110) z106 z104).bind fun u115 => if (u115.2 ≠ 0) then (some (([] : List Int), u115.2)) else
(lapp v95 u115.1).bind fun u132 => rec94 u132 (w64 (v101 + 1))) else
 some (v95, 0)
def ref24_Limits_L1 (z104 : Int) (z105 : Int) (z106 : Int) (z107 : Int) (z108 : Int) (z109 : Int) (z110 : Int) : Nat → (List Int) → Int → Option ((List Int) × Int)
  | 0, _, _ => none
  | n + 1, v95, v101 => ref24_Limits_B1 z104 z105 z106 z107 z108 z109 z110 (ref24_Limits_L1 z104 z105 z106 z107 z108 z109 z110 n) v95 v101
def ref24_Limits (x0 : (Int × Int × Int × Int)) (x1 : Int) (x2 : Int) (x3 : Int) : Option ((List Int) × Int) :=
  (ref23_Valid x0 x1).bind fun u3 => if ((!u3) = true) then (some (([] : List Int), 40)) else
 if ((((x3 < 1) ∨ (16 < x3)) ∨ (x2 < 1)) ∨ (1024 < x2)) then (some (([] : List Int), 41)) else
 ref24_Limits_L1 x2 x3 x1 x0.1 x0.2.1 x0.2.2.1 x0.2.2.2 big ([] : List Int) 0
def ref43_Draws (x0 : (Int × Int × Int × Int)) (x1 : Int) (x2 : Int) (x3 : Int) : Option (Int × Int) :=
  (ref24_Limits x0 x1 x2 x3).bind fun u3 => if (u3.2 ≠ 0) then (some (0, u3.2)) else
 some ((u3.1.length : Int), 0)
def play_Dice_Hashing_J1 (v128 : List Int) (v132 : Int) (v133 : Int) (v134 : List (Int × Int)) (v140 : Int) : Option ((Int × (List (Int × Int))) × ((List Int) × Int)) :=
  some ((v133, v134), (v128, v132))
def play_Dice_Hashing_B2 (kx141 : (List Int) → Int → Int → (List (Int × Int)) → Int → Option ((Int × (List (Int × Int))) × ((List Int) × Int))) (z231 : Int) (rec216 : Int → (List Int) → Int → (List (Int × Int)) → Option ((Int × (List (Int × Int))) × ((List Int) × Int))) (v217 : Int) (v218 : List Int) (v222 : Int) (v223 : List (Int × Int)) : Option ((Int × (List (Int × Int))) × ((List Int) × Int)) :=
  if (0 < v217) then ((play_Dice_Pick (v218, v222) 50).bind fun u236 => (play_Dice_Pick u236.2 50).bind fun u243 => (lapp v223 ([((w64 (1 + u236.1)), u243.1)] : List (Int × Int))).bind fun u257 => rec216 (w64 (v217 - 1)) u243.2.1 u243.2.2 u257) else
 kx141 v218 v222 z231 v223 0
def play_Dice_Hashing_L2 (kx141 : (List Int) → Int → Int → (List (Int × Int)) → Int → Option ((Int × (List (Int × Int))) × ((List Int) × Int))) (z231 : Int) : Nat → Int → (List Int) → Int → (List (Int × Int)) → Option ((Int × (List (Int × Int))) × ((List Int) × Int))
  | 0, _, _, _, _ => none
  | n + 1, v217, v218, v222, v223 => play_Dice_Hashing_B2 kx141 z231 (play_Dice_Hashing_L2 kx141 z231 n) v217 v218 v222 v223
def play_Dice_Hashing (x0 : ((List Int) × Int)) : Option ((Int × (List (Int × Int))) × ((List Int) × Int)) :=
  (play_Dice_Pick x0 5).bind fun u2 => (play_Dice_Pick u2.2 3).bind fun u10 => play_Dice_Hashing_L2 play_Dice_Hashing_J1 (w64 (2 + u2.1)) big (w64 (1 + u10.1)) u10.2.1 u10.2.2 ([] : List (Int × Int))
def cuckoo_Check_B1 (rec44 : Option Int) (x54 : (Int × Int)) : Option Int :=
  if ((((x54.1 < 0) ∨ (2147483647 ≤ x54.1)) ∨ (x54.2 < 0)) ∨ (2147483647 ≤ x54.2)) then (some 2) else
 rec44
def cuckoo_Check_L1 : (List (Int × Int)) → Option Int
  | [] => some 0
  | x54 :: xs => cuckoo_Check_B1 (cuckoo_Check_L1 xs) x54
def cuckoo_Check (x0 : (Int × (List (Int × Int)))) : Option Int :=
  if ((((x0.1 < 1) ∨ (64 < x0.1)) ∨ ((x0.2.length : Int) < 1)) ∨ (4 < (x0.2.length : Int))) then (some 2) else
 cuckoo_Check_L1 x0.2
def cuckoo_homes_B1 (z67 : Int) (z70 : Int) (rec55 : (List Int) → Option (List Int)) (x72 : (Int × Int)) (v59 : List Int) : Option (List Int) :=
  (nz z70).bind fun _ => (lapp v59 ([(Int.tmod (Int.tmod (w64 ((w64 (x72.1 * z67)) + x72.2)) 2147483647) z70)] : List Int)).bind fun u87 => rec55 u87
def cuckoo_homes_L1 (z67 : Int) (z70 : Int) : (List (Int × Int)) → (List Int) → Option (List Int)
  | [], v59 => some v59
  | x72 :: xs, v59 => cuckoo_homes_B1 z67 z70 (cuckoo_homes_L1 z67 z70 xs) x72 v59
def cuckoo_homes (x0 : (Int × (List (Int × Int)))) (x1 : Int) : Option (List Int) :=
  cuckoo_homes_L1 x1 x0.1 x0.2 ([] : List Int)
def cuckoo_Layout_B1 (rec201 : Int → (List (List Int)) → Int → Option ((List (List Int)) × Int)) (z318 : Int) (z321 : Int) (rec301 : (List (List Int)) → Option ((List (List Int)) × Int)) (x325 : Int) (v309 : List (List Int)) : Option ((List (List Int)) × Int) :=
  (lidx v309 x325).bind fun u330 => (if ((u330.length : Int) = 0) then (some true) else (lidx u330 (w64 ((u330.length : Int) - 1))).bind fun u383 => some (decide (u383 ≠ z318))).bind fun u344 => if (u344 = true) then ((lapp u330 ([z318] : List Int)).bind fun u364 => (lidx v309 x325).bind fun u367 => (lupd v309 x325 u364).bind fun u374 => rec301 u374) else
 rec301 v309
def cuckoo_Layout_L1 (rec201 : Int → (List (List Int)) → Int → Option ((List (List Int)) × Int)) (z318 : Int) (z321 : Int) : (List Int) → (List (List Int)) → Option ((List (List Int)) × Int)
  | [], v309 => rec201 (w64 (z318 + 1)) v309 z321
  | x325 :: xs, v309 => cuckoo_Layout_B1 rec201 z318 z321 (cuckoo_Layout_L1 rec201 z318 z321 xs) x325 v309
def cuckoo_Layout_B2 (z217 : Int) (z218 : List (Int × Int)) (rec201 : Int → (List (List Int)) → Int → Option ((List (List Int)) × Int)) (v206 : Int) (v207 : List (List Int)) (v214 : Int) : Option ((List (List Int)) × Int) :=
  if (v206 < z217) then ((cuckoo_homes (v214, z218) v206).bind fun u223 => cuckoo_Layout_L1 rec201 v206 v214 u223 v207) else
 some (v207, 0)
def cuckoo_Layout_L2 (z217 : Int) (z218 : List (Int × Int)) : Nat → Int → (List (List Int)) → Int → Option ((List (List Int)) × Int)
  | 0, _, _, _ => none
  | n + 1, v206, v207, v214 => cuckoo_Layout_B2 z217 z218 (cuckoo_Layout_L2 z217 z218 n) v206 v207 v214
def cuckoo_Layout (x0 : (Int × (List (Int × Int)))) (x1 : Int) : Option ((List (List Int)) × Int) :=
  (cuckoo_Check x0).bind fun u2 => if (u2 ≠ 0) then (some (([] : List (List Int)), u2)) else
 if ((x1 < 0) ∨ (1024 < x1)) then (some (([] : List (List Int)), 4)) else
(lmk x0.1 ([] : List Int)).bind fun u16 => cuckoo_Layout_L2 x1 x0.2 big 0 u16 x0.1
def scheme_Units (x0 : (Int × Int × Int × Int)) (x1 : Int) : Option Int :=
  (scheme_Shape x0).bind fun u2 => (if ((!u2) = true) then (some true) else (scheme_within x1 1 1024).bind fun u33 => some (!u33)).bind fun u12 => if (u12 = true) then (some 0) else
 if (x0.1 = 3) then ((scheme_storage x0).bind fun u22 => (scheme_groups_units u22 x1).bind fun u26 => some u26) else
 some x1
def cost_Units (x0 : (Int × Int × Int × Int)) (x1 : Int) : Option (Int × Int) :=
  (scheme_Shape x0).bind fun u2 => if ((!u2) = true) then (some (0, 40)) else
 if ((x1 < 1) ∨ (1024 < x1)) then (some (0, 1)) else
(scheme_Units x0 x1).bind fun u16 => some (u16, 0)
def cost_Of (x0 : (Int × Int × Int × Int)) (x1 : Int) (x2 : Int) (x3 : Int) : Option ((Int × Int × Int) × Int) :=
  (cost_Units x0 x1).bind fun u3 => if (u3.2 ≠ 0) then (some ((0, 0, 0), u3.2)) else
 if ((((x2 < 1) ∨ (64 < x2)) ∨ (x3 < 1)) ∨ (16 < x3)) then (some ((0, 0, 0), 1)) else
 some (((w64 ((w64 (x3 * x0.2.1)) * u3.1)), (w64 ((w64 (x3 * x0.2.1)) * x2)), (w64 ((w64 ((w64 (x3 * x0.2.1)) * u3.1)) * x2))), 0)
def cost_each (x0 : (Int × Int × Int)) (x1 : (Int × Int × Int)) (x2 : Int → Int → Option Int) : Option (Int × Int × Int) :=
  (x2 x0.1 x1.1).bind fun u4 => (x2 x0.2.1 x1.2.1).bind fun u8 => (x2 x0.2.2 x1.2.2).bind fun u12 => some (u4, u8, u12)
def cost_Add_f1 (x0 : Int) (x1 : Int) : Option Int :=
  some (w64 (x0 + x1))
def cost_Add (x0 : (Int × Int × Int)) (x1 : (Int × Int × Int)) : Option (Int × Int × Int) :=
  (cost_each x0 x1 cost_Add_f1).bind fun u4 => some u4
def bounds_Batched_J1 (v100 : Int) (v101 : Int) (v102 : Int) (v103 : Int) (v104 : Int) (v105 : Int) (v106 : Int) (v107 : Int) (v108 : Int) (v109 : Int) (v110 : Int) : Option ((Int × Int × Int) × Int) :=
  some ((v100, v101, v102), 0)
def bounds_Batched_B2 (kx111 : Int → Int → Int → Int → Int → Int → Int → Int → Int → Int → Int → Option ((Int × Int × Int) × Int)) (z163 : Int) (z166 : Int) (z167 : Int) (z168 : Int) (z169 : Int) (z170 : Int) (rec154 : Int → Int → Int → Option ((Int × Int × Int) × Int)) (x173 : (List Int)) (v158 : Int) (v159 : Int) (v160 : Int) : Option ((Int × Int × Int) × Int) :=
  if ((x173.length : Int) = 0) then (rec154 v158 v159 v160) else
(cost_Of (z166, z167, z168, z169) (x173.length : Int) z163 1).bind fun u184 => if (u184.2 ≠ 0) then (some ((0, 0, 0), u184.2)) else
(cost_Add (v158, v159, v160) u184.1).bind fun u192 => rec154 u192.1 u192.2.1 u192.2.2
def bounds_Batched_L2 (kx111 : Int → Int → Int → Int → Int → Int → Int → Int → Int → Int → Int → Option ((Int × Int × Int) × Int)) (z163 : Int) (z166 : Int) (z167 : Int) (z168 : Int) (z169 : Int) (z170 : Int) : (List (List Int)) → Int → Int → Int → Option ((Int × Int × Int) × Int)
  | [], v158, v159, v160 => kx111 v158 v159 v160 0 0 0 z166 z167 z168 z169 z170
  | x173 :: xs, v158, v159, v160 => bounds_Batched_B2 kx111 z163 z166 z167 z168 z169 z170 (bounds_Batched_L2 kx111 z163 z166 z167 z168 z169 z170 xs) x173 v158 v159 v160
def bounds_Batched (x0 : (Int × (List (Int × Int)))) (x1 : (Int × Int × Int × Int)) (x2 : Int) (x3 : Int) : Option ((Int × Int × Int) × Int) :=
  (cuckoo_Layout x0 x2).bind fun u4 => if (u4.2 ≠ 0) then (some ((0, 0, 0), u4.2)) else
 bounds_Batched_L2 bounds_Batched_J1 x3 x1.1 x1.2.1 x1.2.2.1 x1.2.2.2 x0.1 u4.1 0 0 0
def ref19_Check_B1 (rec44 : Option Int) (x54 : (Int × Int)) : Option Int :=
  if ((((x54.1 < 0) ∨ (2147483647 ≤ x54.1)) ∨ (x54.2 < 0)) ∨ (2147483647 ≤ x54.2)) then (some 2) else
 rec44
def ref19_Check_L1 : (List (Int × Int)) → Option Int
  | [] => some 0
  | x54 :: xs => ref19_Check_B1 (ref19_Check_L1 xs) x54
def ref19_Check (x0 : (Int × (List (Int × Int)))) : Option Int :=
  if ((((x0.1 < 1) ∨ (64 < x0.1)) ∨ ((x0.2.length : Int) < 1)) ∨ (4 < (x0.2.length : Int))) then (some 2) else
 ref19_Check_L1 x0.2
def ref19_Homes_B1 (z83 : Int) (z86 : Int) (rec71 : (List Int) → Option ((List Int) × Int)) (x88 : (Int × Int)) (v75 : List Int) : Option ((List Int) × Int) :=
  (nz z86).bind fun _ => (lapp v75 ([(Int.tmod (Int.tmod (w64 ((w64 (x88.1 * z83)) + x88.2)) 2147483647) z86)] : List Int)).bind fun u103 => rec71 u103
def ref19_Homes_L1 (z83 : Int) (z86 : Int) : (List (Int × Int)) → (List Int) → Option ((List Int) × Int)
  | [], v75 => some (v75, 0)
  | x88 :: xs, v75 => ref19_Homes_B1 z83 z86 (ref19_Homes_L1 z83 z86 xs) x88 v75
def ref19_Homes (x0 : (Int × (List (Int × Int)))) (x1 : Int) : Option ((List Int) × Int) :=
  (ref19_Check x0).bind fun u2 => if (u2 ≠ 0) then (some (([] : List Int), u2)) else
 if ((x1 < 0) ∨ (2147483647 ≤ x1)) then (some (([] : List Int), 1)) else
 ref19_Homes_L1 x1 x0.1 x0.2 ([] : List Int)
def ref19_has_B1 (z20 : Int) (rec14 : Option Bool) (x24 : Int) : Option Bool :=
  if (x24 = z20) then (some true) else
 rec14
def ref19_has_L1 (z20 : Int) : (List Int) → Option Bool
  | [] => some false
  | x24 :: xs => ref19_has_B1 z20 (ref19_has_L1 z20 xs) x24
def ref19_has (x0 : (List Int)) (x1 : Int) : Option Bool :=
  ref19_has_L1 x1 x0
def ref19_Layout_B1 (rec251 : Int → (List (List Int)) → Int → Option ((List (List Int)) × Int)) (z427 : Int) (z429 : List Int) (z431 : Int) (rec410 : (List (List Int)) → Option ((List (List Int)) × Int)) (x434 : Int) (i410 : Nat) (v418 : List (List Int)) : Option ((List (List Int)) × Int) :=
  (lsub z429 0 (i410 : Int)).bind fun u439 => (ref19_has u439 x434).bind fun u445 => if ((!u445) = true) then ((lidx v418 x434).bind fun u451 => (lapp u451 ([z427] : List Int)).bind fun u471 => (lidx v418 x434).bind fun u474 => (lupd v418 x434 u471).bind fun u481 => rec410 u481) else
 rec410 v418
def ref19_Layout_L1 (rec251 : Int → (List (List Int)) → Int → Option ((List (List Int)) × Int)) (z427 : Int) (z429 : List Int) (z431 : Int) : (List Int) → Nat → (List (List Int)) → Option ((List (List Int)) × Int)
  | [], i410, v418 => rec251 (w64 (z427 + 1)) v418 z431
  | x434 :: xs, i410, v418 => ref19_Layout_B1 rec251 z427 z429 z431 (ref19_Layout_L1 rec251 z427 z429 z431 xs (i410 + 1)) x434 i410 v418
def ref19_Layout_B2 (z267 : Int) (z268 : List (Int × Int)) (rec251 : Int → (List (List Int)) → Int → Option ((List (List Int)) × Int)) (v256 : Int) (v257 : List (List Int)) (v264 : Int) : Option ((List (List Int)) × Int) :=
  if (v256 < z267) then ((ref19_Homes (v264, z268) v256).bind fun u273 => ref19_Layout_L1 rec251 v256 u273.1 v264 u273.1 0 v257) else
 some (v257, 0)
def ref19_Layout_L2 (z267 : Int) (z268 : List (Int × Int)) : Nat → Int → (List (List Int)) → Int → Option ((List (List Int)) × Int)
  | 0, _, _, _ => none
  | n + 1, v256, v257, v264 => ref19_Layout_B2 z267 z268 (ref19_Layout_L2 z267 z268 n) v256 v257 v264
def ref19_Layout (x0 : (Int × (List (Int × Int)))) (x1 : Int) : Option ((List (List Int)) × Int) :=
  (ref19_Check x0).bind fun u2 => if (u2 ≠ 0) then (some (([] : List (List Int)), u2)) else
 if ((x1 < 0) ∨ (1024 < x1)) then (some (([] : List (List Int)), 4)) else
(lmk x0.1 ([] : List Int)).bind fun u16 => ref19_Layout_L2 x1 x0.2 big 0 u16 x0.1
def ref28_Units (x0 : (Int × Int × Int × Int)) (x1 : Int) : Option (Int × Int) :=
  (ref23_Shape x0).bind fun u2 => if ((!u2) = true) then (some (0, 40)) else
 if ((x1 < 1) ∨ (1024 < x1)) then (some (0, 1)) else
(ref23_Units x0 x1).bind fun u16 => some (u16, 0)
def ref28_Of (x0 : (Int × Int × Int × Int)) (x1 : Int) (x2 : Int) (x3 : Int) : Option ((Int × Int × Int) × Int) :=
  (ref28_Units x0 x1).bind fun u3 => if (u3.2 ≠ 0) then (some ((0, 0, 0), u3.2)) else
 if ((((x2 < 1) ∨ (64 < x2)) ∨ (x3 < 1)) ∨ (16 < x3)) then (some ((0, 0, 0), 1)) else
 some (((w64 ((w64 (x3 * x0.2.1)) * u3.1)), (w64 ((w64 (x3 * x0.2.1)) * x2)), (w64 ((w64 ((w64 (x3 * x0.2.1)) * u3.1)) * x2))), 0)
def ref28_Add (x0 : (Int × Int × Int)) (x1 : (Int × Int × Int)) : Option (Int × Int × Int) :=
  some ((w64 (x0.1 + x1.1)), (w64 (x0.2.1 + x1.2.1)), (w64 (x0.2.2 + x1.2.2)))
def ref43_Batched_J1 (v16229 : Int) (v16230 : Int) (v16231 : Int) (v16232 : Int) (v16233 : Int) (v16234 : Int) (v16235 : Int) (v16236 : Int) (v16237 : Int) (v16238 : Int) (v16239 : Int) : Option ((Int × Int × Int) × Int) :=
  some ((v16229, v16230, v16231), 0)
def ref43_Batched_J2 (rec24349 : Int → Int → Int → Int → Option ((Int × Int × Int) × Int)) (z28410 : Int) (z28413 : Int) (z28414 : Int) (z28415 : Int) (v28404 : Int) (v28405 : Int) (v28406 : Int) (v28407 : Int) : Option ((Int × Int × Int) × Int) :=
  if (v28407 ≠ 0) then (some ((0, 0, 0), v28407)) else
(ref28_Add (z28413, z28414, z28415) (v28404, v28405, v28406)).bind fun u28425 => rec24349 (w64 (z28410 + 1)) u28425.1 u28425.2.1 u28425.2.2
def ref43_Batched_B3 (kx16240 : Int → Int → Int → Int → Int → Int → Int → Int → Int → Int → Int → Option ((Int × Int × Int) × Int)) (z24356 : Int) (z24357 : List (List Int)) (z24358 : Int) (z24359 : Int) (z24360 : Int) (z24361 : Int) (z24362 : Int) (rec24349 : Int → Int → Int → Int → Option ((Int × Int × Int) × Int)) (v24350 : Int) (v24351 : Int) (v24352 : Int) (v24353 : Int) : Option ((Int × Int × Int) × Int) :=
  if (v24350 < (z24357.length : Int)) then ((lidx z24357 v24350).bind fun u24368 => if ((u24368.length : Int) = 0) then (rec24349 (w64 (v24350 + 1)) v24351 v24352 v24353) else
(lidx z24357 v24350).bind fun u28430 => (ref28_Of (z24358, z24359, z24360, z24361) (u28430.length : Int) z24356 1).bind fun u28437 => (ref43_Batched_J2 rec24349 v24350 v24351 v24352 v24353) u28437.1.1 u28437.1.2.1 u28437.1.2.2 u28437.2) else
 kx16240 v24351 v24352 v24353 0 0 0 z24358 z24359 z24360 z24361 z24362
def ref43_Batched_L3 (kx16240 : Int → Int → Int → Int → Int → Int → Int → Int → Int → Int → Int → Option ((Int × Int × Int) × Int)) (z24356 : Int) (z24357 : List (List Int)) (z24358 : Int) (z24359 : Int) (z24360 : Int) (z24361 : Int) (z24362 : Int) : Nat → Int → Int → Int → Int → Option ((Int × Int × Int) × Int)
  | 0, _, _, _, _ => none
  | n + 1, v24350, v24351, v24352, v24353 => ref43_Batched_B3 kx16240 z24356 z24357 z24358 z24359 z24360 z24361 z24362 (ref43_Batched_L3 kx16240 z24356 z24357 z24358 z24359 z24360 z24361 z24362 n) v24350 v24351 v24352 v24353
def ref43_Batched (x0 : (Int × (List (Int × Int)))) (x1 : (Int × Int × Int × Int)) (x2 : Int) (x3 : Int) : Option ((Int × Int × Int) × Int) :=
  (ref19_Layout x0 x2).bind fun u4 => if (u4.2 ≠ 0) then (some ((0, 0, 0), u4.2)) else
 ref43_Batched_L3 ref43_Batched_J1 x3 u4.1 x1.1 x1.2.1 x1.2.2.1 x1.2.2.2 x0.1 big 0 0 0 0
def cuckoo_sets_B1 (z18 : Int) (z19 : Int) (rec13 : Int → Int → Option Int) (v14 : Int) (v15 : Int) : Option Int :=
  if (v15 ≤ (min z19 (w64 (z18 - z19)))) then ((nz v15).bind fun _ => if (4096 < (w64 (Int.tdiv (w64 (v14 * (w64 ((w64 (z18 - v15)) + 1)))) v15))) then (some (w64 (Int.tdiv (w64 (v14 * (w64 ((w64 (z18 - v15)) + 1)))) v15))) else
 rec13 (w64 (Int.tdiv (w64 (v14 * (w64 ((w64 (z18 - v15)) + 1)))) v15)) (w64 (v15 + 1))) else
 some v14
def cuckoo_sets_L1 (z18 : Int) (z19 : Int) : Nat → Int → Int → Option Int
  | 0, _, _ => none
  | n + 1, v14, v15 => cuckoo_sets_B1 z18 z19 (cuckoo_sets_L1 z18 z19 n) v14 v15
def cuckoo_sets (x0 : Int) (x1 : Int) : Option Int :=
  cuckoo_sets_L1 x0 x1 big 1 1
def cuckoo_start_B1 (z4205 : Int) (z4206 : List (Int × Int)) (z4207 : List Int) (z4208 : List Bool) (rec4187 : (List (List Int)) → Option ((List (List Int)) × (List Int) × (List Bool))) (x4210 : Int) (v4195 : List (List Int)) : Option ((List (List Int)) × (List Int) × (List Bool)) :=
  (cuckoo_homes (z4205, z4206) x4210).bind fun u4225 => (lapp v4195 ([u4225] : List (List Int))).bind fun u4246 => rec4187 u4246
def cuckoo_start_L1 (z4205 : Int) (z4206 : List (Int × Int)) (z4207 : List Int) (z4208 : List Bool) : (List Int) → (List (List Int)) → Option ((List (List Int)) × (List Int) × (List Bool))
  | [], v4195 => some (v4195, z4207, z4208)
  | x4210 :: xs, v4195 => cuckoo_start_B1 z4205 z4206 z4207 z4208 (cuckoo_start_L1 z4205 z4206 z4207 z4208 xs) x4210 v4195
def cuckoo_start_J2 (z4099 : List Int) (z4100 : List (Int × Int)) (z4101 : List Bool) (v4090 : List Int) (v4096 : Int) : Option ((List (List Int)) × (List Int) × (List Bool)) :=
  cuckoo_start_L1 v4096 z4100 v4090 z4101 z4099 ([] : List (List Int))
def cuckoo_start_B3 (kx4097 : (List Int) → Int → Option ((List (List Int)) × (List Int) × (List Bool))) (z4280 : Int) (rec4266 : (List Int) → Option ((List (List Int)) × (List Int) × (List Bool))) (x4284 : Int) (i4266 : Nat) (v4270 : List Int) : Option ((List (List Int)) × (List Int) × (List Bool)) :=
  (lidx v4270 (i4266 : Int)).bind fun u4286 => (lupd v4270 (i4266 : Int) (-1)).bind fun u4291 => rec4266 u4291
def cuckoo_start_L3 (kx4097 : (List Int) → Int → Option ((List (List Int)) × (List Int) × (List Bool))) (z4280 : Int) : (List Int) → Nat → (List Int) → Option ((List (List Int)) × (List Int) × (List Bool))
  | [], i4266, v4270 => kx4097 v4270 z4280
  | x4284 :: xs, i4266, v4270 => cuckoo_start_B3 kx4097 z4280 (cuckoo_start_L3 kx4097 z4280 xs (i4266 + 1)) x4284 i4266 v4270
def cuckoo_start_J4 (z4041 : List Int) (z4042 : Int) (z4043 : List (Int × Int)) (v4027 : List Int) (v4033 : List Bool) : Option ((List (List Int)) × (List Int) × (List Bool)) :=
  cuckoo_start_L3 (cuckoo_start_J2 z4041 z4043 v4033) z4042 v4027 0 v4027
def cuckoo_start (x0 : (Int × (List (Int × Int)))) (x1 : (List Int)) : Option ((List (List Int)) × (List Int) × (List Bool)) :=
  (lmk x0.1 0).bind fun u4297 => (lmk x0.1 false).bind fun u4302 => (cuckoo_start_J4 x1 x0.1 x0.2) u4297 u4302
def cuckoo_placing_place_B1 (rec9999 : ((List (List Int)) × (List Int) × (List Bool)) → Int → (List Bool) → Option (Bool × (List Int) × (List Bool))) (z129 : Int) (z132 : List (List Int)) (z133 : List Bool) (rec111 : (List Bool) → (List Int) → Option (Bool × (List Int) × (List Bool))) (x135 : Int) (v115 : List Bool) (v121 : List Int) : Option (Bool × (List Int) × (List Bool)) :=
  (lidx v115 x135).bind fun u140 => (if (u140 = true) then (some true) else (lidx z133 x135).bind fun u225 => some u225).bind fun u152 => if (u152 = true) then (rec111 v115 v121) else
(lidx v121 x135).bind fun u160 => if (u160 < 0) then ((lidx v121 x135).bind fun u167 => (lupd v121 x135 z129).bind fun u172 => some (true, u172, v115)) else
(lidx v115 x135).bind fun u179 => (lupd v115 x135 true).bind fun u184 => (lidx v121 x135).bind fun u190 => (rec9999 (z132, v121, z133) u190 u184).bind fun u195 => if (u195.1 = true) then ((lidx u195.2.1 x135).bind fun u211 => (lupd u195.2.1 x135 z129).bind fun u216 => some (true, u216, u195.2.2)) else
 rec111 u195.2.2 u195.2.1
def cuckoo_placing_place_L1 (rec9999 : ((List (List Int)) × (List Int) × (List Bool)) → Int → (List Bool) → Option (Bool × (List Int) × (List Bool))) (z129 : Int) (z132 : List (List Int)) (z133 : List Bool) : (List Int) → (List Bool) → (List Int) → Option (Bool × (List Int) × (List Bool))
  | [], v115, v121 => some (false, v121, v115)
  | x135 :: xs, v115, v121 => cuckoo_placing_place_B1 rec9999 z129 z132 z133 (cuckoo_placing_place_L1 rec9999 z129 z132 z133 xs) x135 v115 v121
def cuckoo_placing_place_B2 (rec9999 : ((List (List Int)) × (List Int) × (List Bool)) → Int → (List Bool) → Option (Bool × (List Int) × (List Bool))) (x0 : ((List (List Int)) × (List Int) × (List Bool))) (x1 : Int) (x2 : (List Bool)) : Option (Bool × (List Int) × (List Bool)) :=
  (lidx x0.1 x1).bind fun u3 => cuckoo_placing_place_L1 rec9999 x1 x0.1 x0.2.2 u3 x2 x0.2.1
def cuckoo_placing_place_R : Nat → ((List (List Int)) × (List Int) × (List Bool)) → Int → (List Bool) → Option (Bool × (List Int) × (List Bool))
  | 0, _, _, _ => none
  | n + 1, x0, x1, x2 => cuckoo_placing_place_B2 (cuckoo_placing_place_R n) x0 x1 x2
def cuckoo_placing_place (x0 : ((List (List Int)) × (List Int) × (List Bool))) (x1 : Int) (x2 : (List Bool)) : Option (Bool × (List Int) × (List Bool)) := cuckoo_placing_place_R big x0 x1 x2
def cuckoo_placing_all_B1 (z44 : List (List Int)) (z45 : List Bool) (rec34 : Int → (List Int) → Option (Bool × (List Int))) (v35 : Int) (v36 : List Int) : Option (Bool × (List Int)) :=
  if (v35 < (z44.length : Int)) then ((lmk (v36.length : Int) false).bind fun u50 => (cuckoo_placing_place (z44, v36, z45) v35 u50).bind fun u60 => if ((!u60.1) = true) then (some (false, u60.2.1)) else
 rec34 (w64 (v35 + 1)) u60.2.1) else
 some (true, v36)
def cuckoo_placing_all_L1 (z44 : List (List Int)) (z45 : List Bool) : Nat → Int → (List Int) → Option (Bool × (List Int))
  | 0, _, _ => none
  | n + 1, v35, v36 => cuckoo_placing_all_B1 z44 z45 (cuckoo_placing_all_L1 z44 z45 n) v35 v36
def cuckoo_placing_all (x0 : ((List (List Int)) × (List Int) × (List Bool))) (x1 : Int) : Option (Bool × (List Int)) :=
  cuckoo_placing_all_L1 x0.1 x0.2.2 big x1 x0.2.1
def cuckoo_Failures_f1_B1 (rec9999 : (List Int) → Int → Int → Int → (Int × (List (Int × Int))) → Int → Int → Option (Int × Int)) (z136 : Int) (z137 : Int) (z138 : List (Int × Int)) (z139 : Int) (z140 : List Int) (rec126 : Int → Int → Int → Option (Int × Int)) (v131 : Int) (v132 : Int) (v133 : Int) : Option (Int × Int) :=
  if (v131 ≤ (w64 (z139 - (w64 (z136 - (z140.length : Int)))))) then ((lapp z140 ([v131] : List Int)).bind fun u153 => (rec9999 u153 (w64 (v131 + 1)) z136 v132 (z137, z138) v133 z139).bind fun u162 => rec126 (w64 (v131 + 1)) u162.1 u162.2) else
 some (v132, v133)
def cuckoo_Failures_f1_L1 (rec9999 : (List Int) → Int → Int → Int → (Int × (List (Int × Int))) → Int → Int → Option (Int × Int)) (z136 : Int) (z137 : Int) (z138 : List (Int × Int)) (z139 : Int) (z140 : List Int) : Nat → Int → Int → Int → Option (Int × Int)
  | 0, _, _, _ => none
  | n + 1, v131, v132, v133 => cuckoo_Failures_f1_B1 rec9999 z136 z137 z138 z139 z140 (cuckoo_Failures_f1_L1 rec9999 z136 z137 z138 z139 z140 n) v131 v132 v133
def cuckoo_Failures_f1_B2 (rec9999 : (List Int) → Int → Int → Int → (Int × (List (Int × Int))) → Int → Int → Option (Int × Int)) (x0 : (List Int)) (x1 : Int) (x2 : Int) (x3 : Int) (x4 : (Int × (List (Int × Int)))) (x5 : Int) (x6 : Int) : Option (Int × Int) :=
  if ((x0.length : Int) = x2) then ((if (x4.1 < x2) then (some true) else (cuckoo_start x4 x0).bind fun u63 => (cuckoo_placing_all u63 0).bind fun u87 => some (!u87.1)).bind fun u46 => if (u46 = true) then (some ((w64 (x3 + 1)), (w64 (x5 + 1)))) else
 some ((w64 (x3 + 1)), x5)) else
 cuckoo_Failures_f1_L1 rec9999 x2 x4.1 x4.2 x6 x0 big x1 x3 x5
def cuckoo_Failures_f1_R : Nat → (List Int) → Int → Int → Int → (Int × (List (Int × Int))) → Int → Int → Option (Int × Int)
  | 0, _, _, _, _, _, _, _ => none
  | n + 1, x0, x1, x2, x3, x4, x5, x6 => cuckoo_Failures_f1_B2 (cuckoo_Failures_f1_R n) x0 x1 x2 x3 x4 x5 x6
def cuckoo_Failures_f1 (x0 : (List Int)) (x1 : Int) (x2 : Int) (x3 : Int) (x4 : (Int × (List (Int × Int)))) (x5 : Int) (x6 : Int) : Option (Int × Int) := cuckoo_Failures_f1_R big x0 x1 x2 x3 x4 x5 x6
def cuckoo_Failures (x0 : (Int × (List (Int × Int)))) (x1 : Int) (x2 : Int) : Option (Int × Int × Int) :=
  (cuckoo_Check x0).bind fun u4 => if (u4 ≠ 0) then (some (0, 0, u4)) else
 if ((((x1 < 0) ∨ (1024 < x1)) ∨ (x2 < 0)) ∨ (x1 < x2)) then (some (0, 0, 1)) else
(cuckoo_sets x1 x2).bind fun u26 => if (4096 < u26) then (some (0, 0, 4)) else
(cuckoo_Failures_f1 ([] : List Int) 0 x2 0 x0 0 x1).bind fun u57 => some (u57.2, u57.1, 0)
def bounds_Failure (x0 : (Int × (List (Int × Int)))) (x1 : Int) (x2 : Int) : Option (Int × Int × Int) :=
  (cuckoo_Failures x0 x1 x2).bind fun u2 => some (u2.1, u2.2.1, u2.2.2)
def ref19_sets_B1 (z18 : Int) (z19 : Int) (rec13 : Int → Int → Option Int) (v14 : Int) (v15 : Int) : Option Int :=
  if (v15 < (min z19 (w64 (z18 - z19)))) then ((nz (w64 (v15 + 1))).bind fun _ => if (4096 < (w64 (Int.tdiv (w64 (v14 * (w64 (z18 - v15)))) (w64 (v15 + 1))))) then (some 4097) else
 rec13 (w64 (Int.tdiv (w64 (v14 * (w64 (z18 - v15)))) (w64 (v15 + 1)))) (w64 (v15 + 1))) else
 some v14
def ref19_sets_L1 (z18 : Int) (z19 : Int) : Nat → Int → Int → Option Int
  | 0, _, _ => none
  | n + 1, v14, v15 => ref19_sets_B1 z18 z19 (ref19_sets_L1 z18 z19 n) v14 v15
def ref19_sets (x0 : Int) (x1 : Int) : Option Int :=
  ref19_sets_L1 x0 x1 big 1 0
def ref19_all_B1 (z111 : Int) (z112 : List (Int × Int)) (rec93 : (List (List Int)) → Option ((List (List Int)) × Int)) (x114 : Int) (v101 : List (List Int)) : Option ((List (List Int)) × Int) :=
  (ref19_Homes (z111, z112) x114).bind fun u119 => if (u119.2 ≠ 0) then (some (([] : List (List Int)), u119.2)) else
(lapp v101 ([u119.1] : List (List Int))).bind fun u144 => rec93 u144
def ref19_all_L1 (z111 : Int) (z112 : List (Int × Int)) : (List Int) → (List (List Int)) → Option ((List (List Int)) × Int)
  | [], v101 => some (v101, 0)
  | x114 :: xs, v101 => ref19_all_B1 z111 z112 (ref19_all_L1 z111 z112 xs) x114 v101
def ref19_all (x0 : (Int × (List (Int × Int)))) (x1 : (List Int)) : Option ((List (List Int)) × Int) :=
  (ref19_Check x0).bind fun u2 => if (u2 ≠ 0) then (some (([] : List (List Int)), u2)) else
 ref19_all_L1 x0.1 x0.2 x1 ([] : List (List Int))
def ref19_place_B1 (rec227 : (List Bool) → Option (Bool × (List (List Int)) × (List Bool))) (rec9999 : (List (List Int)) → (List (List Int)) → (List Int) → Int → Int → (List Bool) → Option (Bool × (List (List Int)) × (List Bool))) (z397 : List (List Int)) (z398 : List Int) (z399 : Int) (z400 : Int) (z403 : Int) (z406 : List (List Int)) (rec384 : (List Bool) → Option (Bool × (List (List Int)) × (List Bool))) (x408 : Int) (i384 : Nat) (v388 : List Bool) : Option (Bool × (List (List Int)) × (List Bool)) :=
  (rec9999 z397 z406 z398 z399 x408 v388).bind fun u413 => if (u413.1 = true) then ((lidx u413.2.1 z403).bind fun u435 => (lidx u435 (i384 : Int)).bind fun u442 => (lupd u435 (i384 : Int) z400).bind fun u448 => (lupd u413.2.1 z403 u448).bind fun u453 => some (true, u453, u413.2.2)) else
 rec384 u413.2.2
def ref19_place_L1 (rec227 : (List Bool) → Option (Bool × (List (List Int)) × (List Bool))) (rec9999 : (List (List Int)) → (List (List Int)) → (List Int) → Int → Int → (List Bool) → Option (Bool × (List (List Int)) × (List Bool))) (z397 : List (List Int)) (z398 : List Int) (z399 : Int) (z400 : Int) (z403 : Int) (z406 : List (List Int)) : (List Int) → Nat → (List Bool) → Option (Bool × (List (List Int)) × (List Bool))
  | [], i384, v388 => rec227 v388
  | x408 :: xs, i384, v388 => ref19_place_B1 rec227 rec9999 z397 z398 z399 z400 z403 z406 (ref19_place_L1 rec227 rec9999 z397 z398 z399 z400 z403 z406 xs (i384 + 1)) x408 i384 v388
def ref19_place_B2 (rec9999 : (List (List Int)) → (List (List Int)) → (List Int) → Int → Int → (List Bool) → Option (Bool × (List (List Int)) × (List Bool))) (z239 : List (List Int)) (z240 : List Int) (z241 : Int) (z242 : Int) (z245 : List (List Int)) (rec227 : (List Bool) → Option (Bool × (List (List Int)) × (List Bool))) (x247 : Int) (v231 : List Bool) : Option (Bool × (List (List Int)) × (List Bool)) :=
  (lidx v231 x247).bind fun u252 => if (u252 = true) then (rec227 v231) else
(lidx v231 x247).bind fun u260 => (lupd v231 x247 true).bind fun u265 => (lidx z240 x247).bind fun u271 => (lidx z245 x247).bind fun u276 => if ((w64 ((u276.length : Int) + u271)) < z241) then ((lidx z245 x247).bind fun u285 => (lapp u285 ([z242] : List Int)).bind fun u305 => (lidx z245 x247).bind fun u308 => (lupd z245 x247 u305).bind fun u315 => some (true, u315, u265)) else
(lidx z245 x247).bind fun u322 => ref19_place_L1 rec227 rec9999 z239 z240 z241 z242 x247 z245 u322 0 u265
def ref19_place_L2 (rec9999 : (List (List Int)) → (List (List Int)) → (List Int) → Int → Int → (List Bool) → Option (Bool × (List (List Int)) × (List Bool))) (z239 : List (List Int)) (z240 : List Int) (z241 : Int) (z242 : Int) (z245 : List (List Int)) : (List Int) → (List Bool) → Option (Bool × (List (List Int)) × (List Bool))
  | [], v231 => some (false, z245, v231)
  | x247 :: xs, v231 => ref19_place_B2 rec9999 z239 z240 z241 z242 z245 (ref19_place_L2 rec9999 z239 z240 z241 z242 z245 xs) x247 v231
def ref19_place_B3 (rec9999 : (List (List Int)) → (List (List Int)) → (List Int) → Int → Int → (List Bool) → Option (Bool × (List (List Int)) × (List Bool))) (x0 : (List (List Int))) (x1 : (List (List Int))) (x2 : (List Int)) (x3 : Int) (x4 : Int) (x5 : (List Bool)) : Option (Bool × (List (List Int)) × (List Bool)) :=
  (lidx x0 x4).bind fun u4 => ref19_place_L2 rec9999 x0 x2 x3 x4 x1 u4 x5
def ref19_place_R : Nat → (List (List Int)) → (List (List Int)) → (List Int) → Int → Int → (List Bool) → Option (Bool × (List (List Int)) × (List Bool))
  | 0, _, _, _, _, _, _ => none
  | n + 1, x0, x1, x2, x3, x4, x5 => ref19_place_B3 (ref19_place_R n) x0 x1 x2 x3 x4 x5
def ref19_place (x0 : (List (List Int))) (x1 : (List (List Int))) (x2 : (List Int)) (x3 : Int) (x4 : Int) (x5 : (List Bool)) : Option (Bool × (List (List Int)) × (List Bool)) := ref19_place_R big x0 x1 x2 x3 x4 x5
def ref19_Possible_B1 (z57 : List (List Int)) (z58 : Int) (z59 : Int) (z60 : List Int) (rec44 : (List (List Int)) → Option Bool) (x63 : (List Int)) (i44 : Nat) (v48 : List (List Int)) : Option Bool :=
  (lmk z58 false).bind fun u65 => (ref19_place z57 v48 z60 z59 (i44 : Int) u65).bind fun u75 => if (u75.1 = true) then (rec44 u75.2.1) else
 some false
def ref19_Possible_L1 (z57 : List (List Int)) (z58 : Int) (z59 : Int) (z60 : List Int) : (List (List Int)) → Nat → (List (List Int)) → Option Bool
  | [], i44, v48 => some true
  | x63 :: xs, i44, v48 => ref19_Possible_B1 z57 z58 z59 z60 (ref19_Possible_L1 z57 z58 z59 z60 xs (i44 + 1)) x63 i44 v48
def ref19_Possible (x0 : (List (List Int))) (x1 : Int) (x2 : Int) (x3 : (List Int)) : Option Bool :=
  (lmk x1 ([] : List Int)).bind fun u1 => ref19_Possible_L1 x0 x1 x2 x3 x0 0 u1
def ref19_First_B1 (rec364 : (List Int) → (List Int) → Option ((List Int) × Bool)) (z482 : Int) (z483 : List (List Int)) (z484 : Int) (z485 : Int) (z489 : List Int) (rec470 : (List Int) → Option ((List Int) × Bool)) (x491 : Int) (v474 : List Int) : Option ((List Int) × Bool) :=
  (lidx v474 x491).bind fun u496 => if (u496 = z485) then (rec470 v474) else
(lidx v474 x491).bind fun u504 => (lidx v474 x491).bind fun u509 => (lupd v474 x491 (w64 (u504 + 1))).bind fun u514 => (lsub z483 (w64 (z482 + 1)) (z483.length : Int)).bind fun u519 => (ref19_Possible u519 z484 z485 u514).bind fun u525 => if (u525 = true) then ((lapp z489 ([x491] : List Int)).bind fun u538 => rec364 u538 u514) else
(lidx u514 x491).bind fun u542 => (lidx u514 x491).bind fun u547 => (lupd u514 x491 (w64 (u542 - 1))).bind fun u552 => rec470 u552
def ref19_First_L1 (rec364 : (List Int) → (List Int) → Option ((List Int) × Bool)) (z482 : Int) (z483 : List (List Int)) (z484 : Int) (z485 : Int) (z489 : List Int) : (List Int) → (List Int) → Option ((List Int) × Bool)
  | [], v474 => rec364 z489 v474
  | x491 :: xs, v474 => ref19_First_B1 rec364 z482 z483 z484 z485 z489 (ref19_First_L1 rec364 z482 z483 z484 z485 z489 xs) x491 v474
def ref19_First_B2 (z382 : List (List Int)) (z383 : Int) (z384 : Int) (rec364 : (List Int) → (List Int) → Option ((List Int) × Bool)) (x387 : (List Int)) (i364 : Nat) (v368 : List Int) (v374 : List Int) : Option ((List Int) × Bool) :=
  ref19_First_L1 rec364 (i364 : Int) z382 z383 z384 v368 x387 v374
def ref19_First_L2 (z382 : List (List Int)) (z383 : Int) (z384 : Int) : (List (List Int)) → Nat → (List Int) → (List Int) → Option ((List Int) × Bool)
  | [], i364, v368, v374 => some (v368, true)
  | x387 :: xs, i364, v368, v374 => ref19_First_B2 z382 z383 z384 (ref19_First_L2 z382 z383 z384 xs (i364 + 1)) x387 i364 v368 v374
def ref19_First (x0 : (List (List Int))) (x1 : Int) (x2 : Int) : Option ((List Int) × Bool) :=
  (lmk x1 0).bind fun u1 => (ref19_Possible x0 x1 x2 u1).bind fun u7 => if ((!u7) = true) then (some (([] : List Int), false)) else
 ref19_First_L2 x0 x1 x2 x0 0 ([] : List Int) u1
def ref19_Assign_J1 (v155 : List Int) (v161 : Int) : Option ((List Int) × Int) :=
  some (v155, 0)
def ref19_Assign_B2 (kx162 : (List Int) → Int → Option ((List Int) × Int)) (z206 : Int) (rec193 : (List Int) → Option ((List Int) × Int)) (x210 : Int) (i193 : Nat) (v197 : List Int) : Option ((List Int) × Int) :=
  (lidx v197 x210).bind fun u215 => (lupd v197 x210 (i193 : Int)).bind fun u220 => rec193 u220
def ref19_Assign_L2 (kx162 : (List Int) → Int → Option ((List Int) × Int)) (z206 : Int) : (List Int) → Nat → (List Int) → Option ((List Int) × Int)
  | [], i193, v197 => kx162 v197 z206
  | x210 :: xs, i193, v197 => ref19_Assign_B2 kx162 z206 (ref19_Assign_L2 kx162 z206 xs (i193 + 1)) x210 i193 v197
def ref19_Assign_J3 (z101 : List Int) (v91 : List Int) (v97 : Int) : Option ((List Int) × Int) :=
  ref19_Assign_L2 ref19_Assign_J1 v97 z101 0 v91
def ref19_Assign_B4 (kx98 : (List Int) → Int → Option ((List Int) × Int)) (z255 : Int) (rec242 : (List Int) → Option ((List Int) × Int)) (x259 : Int) (i242 : Nat) (v246 : List Int) : Option ((List Int) × Int) :=
  (lidx v246 (i242 : Int)).bind fun u261 => (lupd v246 (i242 : Int) (-1)).bind fun u266 => rec242 u266
def ref19_Assign_L4 (kx98 : (List Int) → Int → Option ((List Int) × Int)) (z255 : Int) : (List Int) → Nat → (List Int) → Option ((List Int) × Int)
  | [], i242, v246 => kx98 v246 z255
  | x259 :: xs, i242, v246 => ref19_Assign_B4 kx98 z255 (ref19_Assign_L4 kx98 z255 xs (i242 + 1)) x259 i242 v246
def ref19_Assign (x0 : (Int × (List (Int × Int)))) (x1 : (List Int)) : Option ((List Int) × Int) :=
  (ref19_all x0 x1).bind fun u3 => if (u3.2 ≠ 0) then (some (([] : List Int), u3.2)) else
 if (x0.1 < (x1.length : Int)) then (some (([] : List Int), 4)) else
(ref19_First u3.1 x0.1 1).bind fun u27 => if ((!u27.2) = true) then (some (([] : List Int), 15)) else
(lmk x0.1 0).bind fun u39 => ref19_Assign_L4 (ref19_Assign_J3 u27.1) x0.1 u39 0 u39
def ref19_Failures_B1 (rec370 : Int → Int → (List Int) → Int → Option (Int × Int × Int)) (z546 : Int) (z547 : Int) (z549 : Int) (z551 : Int) (rec536 : Int → (List Int) → Option (Int × Int × Int)) (v537 : Int) (v538 : List Int) : Option (Int × Int × Int) :=
  if (v537 < z549) then ((lidx v538 (w64 (v537 - 1))).bind fun u557 => (lidx v538 v537).bind fun u562 => (lupd v538 v537 (w64 (u557 + 1))).bind fun u567 => rec536 (w64 (v537 + 1)) u567) else
 rec370 z546 (w64 (z547 + 1)) v538 z551
def ref19_Failures_L1 (rec370 : Int → Int → (List Int) → Int → Option (Int × Int × Int)) (z546 : Int) (z547 : Int) (z549 : Int) (z551 : Int) : Nat → Int → (List Int) → Option (Int × Int × Int)
  | 0, _, _ => none
  | n + 1, v537, v538 => ref19_Failures_B1 rec370 z546 z547 z549 z551 (ref19_Failures_L1 rec370 z546 z547 z549 z551 n) v537 v538
def ref19_Failures_J2 (rec370 : Int → Int → (List Int) → Int → Option (Int × Int × Int)) (z489 : Int) (z490 : Int) (z492 : Int) (z493 : Int) (z495 : List Int) (v485 : Int) (v486 : Int) : Option (Int × Int × Int) :=
  if (v485 < 0) then (some (z489, z493, 0)) else
(lidx z495 v485).bind fun u499 => (lidx z495 v485).bind fun u504 => (lupd z495 v485 (w64 (u499 + 1))).bind fun u509 => ref19_Failures_L1 rec370 z489 z490 z492 v486 big (w64 (v485 + 1)) u509
def ref19_Failures_B3 (kx487 : Int → Int → Option (Int × Int × Int)) (z606 : Int) (z607 : Int) (z609 : Int) (z611 : List Int) (rec600 : Int → Option (Int × Int × Int)) (v601 : Int) : Option (Int × Int × Int) :=
  (if (0 ≤ v601) then ((lidx z611 v601).bind fun u630 => some (decide (u630 = (w64 ((w64 (z606 - z607)) + v601))))) else some false).bind fun u621 => if (u621 = true) then (rec600 (w64 (v601 - 1))) else
 kx487 v601 z609
def ref19_Failures_L3 (kx487 : Int → Int → Option (Int × Int × Int)) (z606 : Int) (z607 : Int) (z609 : Int) (z611 : List Int) : Nat → Int → Option (Int × Int × Int)
  | 0, _ => none
  | n + 1, v601 => ref19_Failures_B3 kx487 z606 z607 z609 z611 (ref19_Failures_L3 kx487 z606 z607 z609 z611 n) v601
def ref19_Failures_J4 (rec370 : Int → Int → (List Int) → Int → Option (Int × Int × Int)) (z416 : Int) (z417 : Int) (z418 : Int) (z419 : Int) (z420 : Int) (z422 : List Int) (v413 : Int) : Option (Int × Int × Int) :=
  ref19_Failures_L3 (ref19_Failures_J2 rec370 v413 z416 z418 z419 z422) z417 z418 z420 z422 big (w64 (z418 - 1))
def ref19_Failures_B5 (z382 : Int) (z383 : Int) (z384 : Int) (z385 : List (Int × Int)) (rec370 : Int → Int → (List Int) → Int → Option (Int × Int × Int)) (v371 : Int) (v372 : Int) (v373 : List Int) (v379 : Int) : Option (Int × Int × Int) :=
  if (v372 < z384) then ((ref19_Assign (v379, z385) v373).bind fun u397 => if (u397.2 ≠ 0) then ((ref19_Failures_J4 rec370 v372 z382 z383 z384 v379 v373) (w64 (v371 + 1))) else
(ref19_Failures_J4 rec370 v372 z382 z383 z384 v379 v373) v371) else
 some (v371, z384, 0)
def ref19_Failures_L5 (z382 : Int) (z383 : Int) (z384 : Int) (z385 : List (Int × Int)) : Nat → Int → Int → (List Int) → Int → Option (Int × Int × Int)
  | 0, _, _, _, _ => none
  | n + 1, v371, v372, v373, v379 => ref19_Failures_B5 z382 z383 z384 z385 (ref19_Failures_L5 z382 z383 z384 z385 n) v371 v372 v373 v379
def ref19_Failures_J6 (z108 : Int) (z109 : Int) (z110 : Int) (z111 : List (Int × Int)) (v99 : List Int) (v105 : Int) : Option (Int × Int × Int) :=
  ref19_Failures_L5 z108 z109 z110 z111 big 0 0 v99 v105
def ref19_Failures_B7 (kx106 : (List Int) → Int → Option (Int × Int × Int)) (z692 : Int) (z694 : Int) (rec681 : (List Int) → Int → Option (Int × Int × Int)) (v682 : List Int) (v688 : Int) : Option (Int × Int × Int) :=
  if (v688 < z692) then ((lapp v682 ([v688] : List Int)).bind fun u707 => rec681 u707 (w64 (v688 + 1))) else
 kx106 v682 z694
def ref19_Failures_L7 (kx106 : (List Int) → Int → Option (Int × Int × Int)) (z692 : Int) (z694 : Int) : Nat → (List Int) → Int → Option (Int × Int × Int)
  | 0, _, _ => none
  | n + 1, v682, v688 => ref19_Failures_B7 kx106 z692 z694 (ref19_Failures_L7 kx106 z692 z694 n) v682 v688
def ref19_Failures (x0 : (Int × (List (Int × Int)))) (x1 : Int) (x2 : Int) : Option (Int × Int × Int) :=
  (ref19_Check x0).bind fun u2 => if (u2 ≠ 0) then (some (0, 0, u2)) else
 if ((((x1 < 0) ∨ (1024 < x1)) ∨ (x2 < 0)) ∨ (x1 < x2)) then (some (0, 0, 1)) else
(ref19_sets x1 x2).bind fun u24 => if (4096 < u24) then (some (0, 0, 4)) else
 ref19_Failures_L7 (ref19_Failures_J6 x1 x2 u24 x0.2) x2 x0.1 big ([] : List Int) 0
def ref43_Failure (x0 : (Int × (List (Int × Int)))) (x1 : Int) (x2 : Int) : Option (Int × Int × Int) :=
  (ref19_Failures x0 x1 x2).bind fun u2 => some (u2.1, u2.2.1, u2.2.2)
def fence_sized (x0 : Int) : Option Bool :=
  some (decide ((2 ≤ x0) ∧ (x0 ≤ 8)))
def fence_proper (x0 : ByteArray) : Option Bool :=
  some (decide ((1 ≤ (x0.size : Int)) ∧ ((x0.size : Int) ≤ 32)))
def fence_ascend_B1 (z71 : List ByteArray) (rec65 : Option Bool) (x74 : ByteArray) (i65 : Nat) : Option Bool :=
  (fence_proper x74).bind fun u79 => (if ((!u79) = true) then (some true) else (if (0 < (i65 : Int)) then ((lidx z71 (w64 ((i65 : Int) - 1))).bind fun u127 => some (decide (¬ sLt u127 x74))) else some false).bind fun u121 => some u121).bind fun u104 => if (u104 = true) then (some false) else
 rec65
def fence_ascend_L1 (z71 : List ByteArray) : (List ByteArray) → Nat → Option Bool
  | [], i65 => some true
  | x74 :: xs, i65 => fence_ascend_B1 z71 (fence_ascend_L1 z71 xs (i65 + 1)) x74 i65
def fence_ascend (x0 : (List ByteArray)) : Option Bool :=
  fence_ascend_L1 x0 x0 0
def fence_Check (x0 : (Int × (List ByteArray))) : Option Int :=
  (fence_sized x0.1).bind fun u2 => (if ((((!u2) = true) ∨ ((x0.2.length : Int) < 1)) ∨ (256 < (x0.2.length : Int))) then (some true) else (fence_ascend x0.2).bind fun u30 => some (!u30)).bind fun u20 => if (u20 = true) then (some 2) else
 some 0
def fence_Steps_B1 (z33 : Int) (rec28 : Int → Int → Option (Int × Int)) (v29 : Int) (v30 : Int) : Option (Int × Int) :=
  if (z33 < v29) then ((nz z33).bind fun _ => rec28 (w64 (Int.tdiv (w64 ((w64 (v29 + z33)) - 1)) z33)) (w64 (v30 + 1))) else
 some (v30, 0)
def fence_Steps_L1 (z33 : Int) : Nat → Int → Int → Option (Int × Int)
  | 0, _, _ => none
  | n + 1, v29, v30 => fence_Steps_B1 z33 (fence_Steps_L1 z33 n) v29 v30
def fence_Steps (x0 : Int) (x1 : Int) : Option (Int × Int) :=
  (if ((x0 < 1) ∨ (256 < x0)) then (some true) else (fence_sized x1).bind fun u43 => some (!u43)).bind fun u11 => if (u11 = true) then (some (0, 1)) else
 fence_Steps_L1 x1 big x0 1
def bounds_Looks (x0 : (Int × (List (Int × Int)))) (x1 : (Int × (List ByteArray))) : Option (Int × Int × Int) :=
  (cuckoo_Check x0).bind fun u3 => if (u3 ≠ 0) then (some (0, 0, u3)) else
(fence_Check x1).bind fun u10 => if (u10 ≠ 0) then (some (0, 0, u10)) else
(fence_Steps (x1.2.length : Int) x1.1).bind fun u17 => if (u17.2 ≠ 0) then (some (0, 0, u17.2)) else
 some ((x0.2.length : Int), u17.1, 0)
def ref20_Key (x0 : ByteArray) : Option Bool :=
  some (decide ((1 ≤ (x0.size : Int)) ∧ ((x0.size : Int) ≤ 32)))
def ref21_ascend_B1 (z71 : List ByteArray) (rec65 : Option Bool) (x74 : ByteArray) (i65 : Nat) : Option Bool :=
  (ref20_Key x74).bind fun u79 => (if ((!u79) = true) then (some true) else (if (0 < (i65 : Int)) then ((lidx z71 (w64 ((i65 : Int) - 1))).bind fun u127 => some (decide (¬ sLt u127 x74))) else some false).bind fun u121 => some u121).bind fun u104 => if (u104 = true) then (some false) else
 rec65
def ref21_ascend_L1 (z71 : List ByteArray) : (List ByteArray) → Nat → Option Bool
  | [], i65 => some true
  | x74 :: xs, i65 => ref21_ascend_B1 z71 (ref21_ascend_L1 z71 xs (i65 + 1)) x74 i65
def ref21_ascend (x0 : (List ByteArray)) : Option Bool :=
  ref21_ascend_L1 x0 x0 0
def ref21_Check (x0 : (Int × (List ByteArray))) : Option Int :=
  (if ((((x0.1 < 2) ∨ (8 < x0.1)) ∨ ((x0.2.length : Int) < 1)) ∨ (256 < (x0.2.length : Int))) then (some true) else (ref21_ascend x0.2).bind fun u30 => some (!u30)).bind fun u20 => if (u20 = true) then (some 2) else
 some 0
def ref21_Steps_B1 (z30 : Int) (rec25 : Int → Int → Option (Int × Int)) (v26 : Int) (v27 : Int) : Option (Int × Int) :=
  if (z30 < v26) then ((nz z30).bind fun _ => rec25 (w64 (Int.tdiv (w64 ((w64 (v26 + z30)) - 1)) z30)) (w64 (v27 + 1))) else
 some (v27, 0)
def ref21_Steps_L1 (z30 : Int) : Nat → Int → Int → Option (Int × Int)
  | 0, _, _ => none
  | n + 1, v26, v27 => ref21_Steps_B1 z30 (ref21_Steps_L1 z30 n) v26 v27
def ref21_Steps (x0 : Int) (x1 : Int) : Option (Int × Int) :=
  if ((((x0 < 1) ∨ (256 < x0)) ∨ (x1 < 2)) ∨ (8 < x1)) then (some (0, 1)) else
 ref21_Steps_L1 x1 big x0 1
def ref43_Looks (x0 : (Int × (List (Int × Int)))) (x1 : (Int × (List ByteArray))) : Option (Int × Int × Int) :=
  (ref19_Check x0).bind fun u3 => if (u3 ≠ 0) then (some (0, 0, u3)) else
(ref21_Check x1).bind fun u10 => if (u10 ≠ 0) then (some (0, 0, u10)) else
(ref21_Steps (x1.2.length : Int) x1.1).bind fun u17 => some ((x0.2.length : Int), u17.1, 0)
def law43_BoundsSteps_B1 (rec1744 : (List Int) → Int → Int → Int → Int → Int → Int → Int → Int → Int → Int → Int → Int → Option Bool) (z1998 : List Int) (z1999 : Int) (z2000 : Int) (z2001 : List (Int × Int)) (z2002 : Int) (z2003 : Int) (z2004 : Int) (z2005 : Int) (z2006 : Int) (z2008 : Int) (z2010 : Int) (z2011 : Int) (z2012 : Int) (z2013 : Int) (z2014 : Int) (rec1987 : Option Bool) (x2020 : (Int × (List ByteArray))) : Option Bool :=
  (bounds_Looks (z2000, z2001) x2020).bind fun u2029 => (ref43_Looks (z2000, z2001) x2020).bind fun u2033 => if (((u2029.1 ≠ u2033.1) ∨ (u2029.2.1 ≠ u2033.2.1)) ∨ (u2029.2.2 ≠ u2033.2.2)) then (some false) else
 rec1987
def law43_BoundsSteps_L1 (rec1744 : (List Int) → Int → Int → Int → Int → Int → Int → Int → Int → Int → Int → Int → Int → Option Bool) (z1998 : List Int) (z1999 : Int) (z2000 : Int) (z2001 : List (Int × Int)) (z2002 : Int) (z2003 : Int) (z2004 : Int) (z2005 : Int) (z2006 : Int) (z2008 : Int) (z2010 : Int) (z2011 : Int) (z2012 : Int) (z2013 : Int) (z2014 : Int) : (List (Int × (List ByteArray))) → Option Bool
  | [] => rec1744 z1998 z1999 z2002 z2003 z2004 z2005 z2006 z2008 z2010 z2011 z2012 z2013 z2014
  | x2020 :: xs => law43_BoundsSteps_B1 rec1744 z1998 z1999 z2000 z2001 z2002 z2003 z2004 z2005 z2006 z2008 z2010 z2011 z2012 z2013 z2014 (law43_BoundsSteps_L1 rec1744 z1998 z1999 z2000 z2001 z2002 z2003 z2004 z2005 z2006 z2008 z2010 z2011 z2012 z2013 z2014 xs) x2020
def law43_BoundsSteps_J2 (rec1744 : (List Int) → Int → Int → Int → Int → Int → Int → Int → Int → Int → Int → Int → Int → Option Bool) (z1923 : List Int) (z1924 : List (Int × Int)) (z1925 : List ByteArray) (v1904 : Int) (v1905 : Int) (v1906 : Int) (v1907 : Int) (v1908 : Int) (v1909 : Int) (v1910 : Int) (v1911 : Int) (v1912 : Int) (v1913 : Int) (v1914 : Int) (v1915 : Int) (v1916 : Int) : Option Bool :=
  law43_BoundsSteps_L1 rec1744 z1923 v1904 v1905 z1924 v1906 v1907 v1908 v1909 v1910 v1911 v1912 v1913 v1914 v1915 v1916 ([(v1910, z1925), (2, ([⟨#[97]⟩, ⟨#[98]⟩, ⟨#[99]⟩] : List ByteArray))] : List (Int × (List ByteArray)))
def law43_BoundsSteps_B3 (kx1917 : Int → Int → Int → Int → Int → Int → Int → Int → Int → Int → Int → Int → Int → Option Bool) (z2104 : Int) (z2105 : Int) (z2106 : List (Int × Int)) (z2107 : Int) (z2108 : Int) (z2109 : Int) (z2110 : Int) (z2111 : Int) (z2113 : Int) (z2115 : Int) (z2116 : Int) (z2117 : Int) (z2118 : Int) (z2119 : Int) (rec2092 : Option Bool) (x2124 : (Int × Int)) : Option Bool :=
  (bounds_Failure (z2105, z2106) x2124.1 x2124.2).bind fun u2130 => (ref43_Failure (z2105, z2106) x2124.1 x2124.2).bind fun u2134 => if (((u2130.1 ≠ u2134.1) ∨ (u2130.2.1 ≠ u2134.2.1)) ∨ (u2130.2.2 ≠ u2134.2.2)) then (some false) else
 rec2092
def law43_BoundsSteps_L3 (kx1917 : Int → Int → Int → Int → Int → Int → Int → Int → Int → Int → Int → Int → Int → Option Bool) (z2104 : Int) (z2105 : Int) (z2106 : List (Int × Int)) (z2107 : Int) (z2108 : Int) (z2109 : Int) (z2110 : Int) (z2111 : Int) (z2113 : Int) (z2115 : Int) (z2116 : Int) (z2117 : Int) (z2118 : Int) (z2119 : Int) : (List (Int × Int)) → Option Bool
  | [] => kx1917 z2104 z2105 z2107 z2108 z2109 z2110 z2111 z2113 z2115 z2116 z2117 z2118 z2119
  | x2124 :: xs => law43_BoundsSteps_B3 kx1917 z2104 z2105 z2106 z2107 z2108 z2109 z2110 z2111 z2113 z2115 z2116 z2117 z2118 z2119 (law43_BoundsSteps_L3 kx1917 z2104 z2105 z2106 z2107 z2108 z2109 z2110 z2111 z2113 z2115 z2116 z2117 z2118 z2119 xs) x2124
def law43_BoundsSteps_B4 (z1770 : Int) (z1771 : Int) (z1773 : List ByteArray) (rec1744 : (List Int) → Int → Int → Int → Int → Int → Int → Int → Int → Int → Int → Int → Int → Option Bool) (x1778 : (Int × (List (Int × Int)))) (v1752 : List Int) (v1756 : Int) (v1757 : Int) (v1758 : Int) (v1759 : Int) (v1760 : Int) (v1761 : Int) (v1762 : Int) (v1763 : Int) (v1764 : Int) (v1765 : Int) (v1766 : Int) (v1767 : Int) : Option Bool :=
  (play_Dice_Pick (v1752, v1756) 8).bind fun u1787 => (play_Dice_Pick u1787.2 4).bind fun u1794 => law43_BoundsSteps_L3 (law43_BoundsSteps_J2 rec1744 u1794.2.1 x1778.2 z1773) u1794.2.2 x1778.1 x1778.2 v1757 v1758 v1759 v1760 v1761 v1762 v1763 v1764 v1765 v1766 v1767 ([((min z1770 12), z1771), ((w64 (1 + u1787.1)), u1794.1)] : List (Int × Int))
def law43_BoundsSteps_L4 (z1770 : Int) (z1771 : Int) (z1773 : List ByteArray) : (List (Int × (List (Int × Int)))) → (List Int) → Int → Int → Int → Int → Int → Int → Int → Int → Int → Int → Int → Int → Option Bool
  | [], v1752, v1756, v1757, v1758, v1759, v1760, v1761, v1762, v1763, v1764, v1765, v1766, v1767 => some true
  | x1778 :: xs, v1752, v1756, v1757, v1758, v1759, v1760, v1761, v1762, v1763, v1764, v1765, v1766, v1767 => law43_BoundsSteps_B4 z1770 z1771 z1773 (law43_BoundsSteps_L4 z1770 z1771 z1773 xs) x1778 v1752 v1756 v1757 v1758 v1759 v1760 v1761 v1762 v1763 v1764 v1765 v1766 v1767
def law43_BoundsSteps_J5 (z1338 : Int) (z1339 : Int) (z1340 : List ByteArray) (z1341 : List (Int × Int)) (v1320 : List Int) (v1324 : Int) (v1325 : Int) (v1326 : Int) (v1327 : Int) (v1328 : Int) (v1329 : Int) (v1330 : Int) (v1331 : Int) (v1332 : Int) (v1333 : Int) (v1334 : Int) (v1335 : Int) : Option Bool :=
  (play_Dice_Hashing (v1320, v1324)).bind fun u1343 => law43_BoundsSteps_L4 z1338 z1339 z1340 ([(v1330, z1341), u1343.1] : List (Int × (List (Int × Int)))) u1343.2.1 u1343.2.2 v1325 v1326 v1327 v1328 v1329 v1330 v1331 v1332 v1333 v1334 v1335
def law43_BoundsSteps_B6 (rec3099 : (List Int) → Int → Int → Int → Int → Int → Int → Int → Int → Int → Int → Int → Int → Int → Int → Int → Int → Option Bool) (z3224 : List Int) (z3225 : Int) (z3226 : Int) (z3227 : List (Int × Int)) (z3228 : Int) (z3229 : Int) (z3230 : Int) (z3231 : Int) (z3232 : Int) (z3233 : Int) (z3234 : Int) (z3235 : Int) (z3236 : Int) (z3238 : Int) (z3240 : Int) (z3241 : Int) (z3242 : Int) (z3243 : Int) (z3244 : Int) (rec3209 : Option Bool) (x3250 : (Int × Int)) : Option Bool :=
  (bounds_Batched (z3226, z3227) (z3228, z3229, z3230, z3231) x3250.1 x3250.2).bind fun u3256 => (ref43_Batched (z3226, z3227) (z3228, z3229, z3230, z3231) x3250.1 x3250.2).bind fun u3261 => if (((u3256.1.1, u3256.1.2.1, u3256.1.2.2) ≠ (u3261.1.1, u3261.1.2.1, u3261.1.2.2)) ∨ (u3256.2 ≠ u3261.2)) then (some false) else
 rec3209
def law43_BoundsSteps_L6 (rec3099 : (List Int) → Int → Int → Int → Int → Int → Int → Int → Int → Int → Int → Int → Int → Int → Int → Int → Int → Option Bool) (z3224 : List Int) (z3225 : Int) (z3226 : Int) (z3227 : List (Int × Int)) (z3228 : Int) (z3229 : Int) (z3230 : Int) (z3231 : Int) (z3232 : Int) (z3233 : Int) (z3234 : Int) (z3235 : Int) (z3236 : Int) (z3238 : Int) (z3240 : Int) (z3241 : Int) (z3242 : Int) (z3243 : Int) (z3244 : Int) : (List (Int × Int)) → Option Bool
  | [] => rec3099 z3224 z3225 z3228 z3229 z3230 z3231 z3232 z3233 z3234 z3235 z3236 z3238 z3240 z3241 z3242 z3243 z3244
  | x3250 :: xs => law43_BoundsSteps_B6 rec3099 z3224 z3225 z3226 z3227 z3228 z3229 z3230 z3231 z3232 z3233 z3234 z3235 z3236 z3238 z3240 z3241 z3242 z3243 z3244 (law43_BoundsSteps_L6 rec3099 z3224 z3225 z3226 z3227 z3228 z3229 z3230 z3231 z3232 z3233 z3234 z3235 z3236 z3238 z3240 z3241 z3242 z3243 z3244 xs) x3250
def law43_BoundsSteps_B7 (rec2749 : (List Int) → Int → Int → Int → Int → Int → Int → Int → Int → Int → Int → Int → Int → Option Bool) (z3126 : Int) (z3127 : Int) (rec3099 : (List Int) → Int → Int → Int → Int → Int → Int → Int → Int → Int → Int → Int → Int → Int → Int → Int → Int → Option Bool) (x3138 : (Int × (List (Int × Int)))) (v3103 : List Int) (v3107 : Int) (v3108 : Int) (v3109 : Int) (v3110 : Int) (v3111 : Int) (v3112 : Int) (v3113 : Int) (v3114 : Int) (v3115 : Int) (v3116 : Int) (v3117 : Int) (v3118 : Int) (v3119 : Int) (v3120 : Int) (v3121 : Int) (v3122 : Int) : Option Bool :=
  (play_Dice_Pick (v3103, v3107) 9).bind fun u3147 => (play_Dice_Pick u3147.2 4).bind fun u3154 => law43_BoundsSteps_L6 rec3099 u3154.2.1 u3154.2.2 x3138.1 x3138.2 v3108 v3109 v3110 v3111 v3112 v3113 v3114 v3115 v3116 v3117 v3118 v3119 v3120 v3121 v3122 ([((min z3126 30), z3127), ((w64 (1 + u3147.1)), (w64 (1 + u3154.1))), (3, 0)] : List (Int × Int))
def law43_BoundsSteps_L7 (rec2749 : (List Int) → Int → Int → Int → Int → Int → Int → Int → Int → Int → Int → Int → Int → Option Bool) (z3126 : Int) (z3127 : Int) : (List (Int × (List (Int × Int)))) → (List Int) → Int → Int → Int → Int → Int → Int → Int → Int → Int → Int → Int → Int → Int → Int → Int → Int → Option Bool
  | [], v3103, v3107, v3108, v3109, v3110, v3111, v3112, v3113, v3114, v3115, v3116, v3117, v3118, v3119, v3120, v3121, v3122 => rec2749 v3103 v3107 v3112 v3113 v3114 v3115 v3116 v3117 v3118 v3119 v3120 v3121 v3122
  | x3138 :: xs, v3103, v3107, v3108, v3109, v3110, v3111, v3112, v3113, v3114, v3115, v3116, v3117, v3118, v3119, v3120, v3121, v3122 => law43_BoundsSteps_B7 rec2749 z3126 z3127 (law43_BoundsSteps_L7 rec2749 z3126 z3127 xs) x3138 v3103 v3107 v3108 v3109 v3110 v3111 v3112 v3113 v3114 v3115 v3116 v3117 v3118 v3119 v3120 v3121 v3122
def law43_BoundsSteps_J8 (rec2749 : (List Int) → Int → Int → Int → Int → Int → Int → Int → Int → Int → Int → Int → Int → Option Bool) (z2917 : Int) (z2918 : Int) (z2922 : List Int) (z2924 : List (Int × Int)) (v2898 : Int) (v2899 : Int) (v2900 : Int) (v2901 : Int) (v2902 : Int) (v2903 : Int) (v2904 : Int) (v2905 : Int) (v2906 : Int) (v2907 : Int) (v2908 : Int) (v2909 : Int) (v2910 : Int) (v2911 : Int) (v2912 : Int) (v2913 : Int) : Option Bool :=
  (play_Dice_Hashing (z2922, v2898)).bind fun u2927 => law43_BoundsSteps_L7 rec2749 z2917 z2918 ([(v2908, z2924), u2927.1] : List (Int × (List (Int × Int)))) u2927.2.1 u2927.2.2 v2899 v2900 v2901 v2902 v2903 v2904 v2905 v2906 v2907 v2908 v2909 v2910 v2911 v2912 v2913
def law43_BoundsSteps_B9 (kx2914 : Int → Int → Int → Int → Int → Int → Int → Int → Int → Int → Int → Int → Int → Int → Int → Int → Option Bool) (z3323 : Int) (z3325 : Int) (z3330 : Int) (z3331 : Int) (z3332 : Int) (z3333 : Int) (z3334 : Int) (z3335 : Int) (z3336 : Int) (z3337 : Int) (z3338 : Int) (z3339 : Int) (z3341 : Int) (z3343 : Int) (z3344 : Int) (z3345 : Int) (z3346 : Int) (z3347 : Int) (rec3316 : Option Bool) (x3351 : Int) : Option Bool :=
  (bounds_Draws (z3331, z3332, z3333, z3334) x3351 (min z3323 30) z3325).bind fun u3357 => (ref43_Draws (z3331, z3332, z3333, z3334) x3351 (min z3323 30) z3325).bind fun u3361 => if ((u3357.1 ≠ u3361.1) ∨ (u3357.2 ≠ u3361.2)) then (some false) else
 rec3316
def law43_BoundsSteps_L9 (kx2914 : Int → Int → Int → Int → Int → Int → Int → Int → Int → Int → Int → Int → Int → Int → Int → Int → Option Bool) (z3323 : Int) (z3325 : Int) (z3330 : Int) (z3331 : Int) (z3332 : Int) (z3333 : Int) (z3334 : Int) (z3335 : Int) (z3336 : Int) (z3337 : Int) (z3338 : Int) (z3339 : Int) (z3341 : Int) (z3343 : Int) (z3344 : Int) (z3345 : Int) (z3346 : Int) (z3347 : Int) : (List Int) → Option Bool
  | [] => kx2914 z3330 z3331 z3332 z3333 z3334 z3335 z3336 z3337 z3338 z3339 z3341 z3343 z3344 z3345 z3346 z3347
  | x3351 :: xs => law43_BoundsSteps_B9 kx2914 z3323 z3325 z3330 z3331 z3332 z3333 z3334 z3335 z3336 z3337 z3338 z3339 z3341 z3343 z3344 z3345 z3346 z3347 (law43_BoundsSteps_L9 kx2914 z3323 z3325 z3330 z3331 z3332 z3333 z3334 z3335 z3336 z3337 z3338 z3339 z3341 z3343 z3344 z3345 z3346 z3347 xs) x3351
def law43_BoundsSteps_B10 (kx1336 : (List Int) → Int → Int → Int → Int → Int → Int → Int → Int → Int → Int → Int → Int → Option Bool) (z2775 : Int) (z2776 : Int) (z2777 : Int) (z2781 : List (Int × Int)) (rec2749 : (List Int) → Int → Int → Int → Int → Int → Int → Int → Int → Int → Int → Int → Int → Option Bool) (x2784 : (Int × Int × Int × Int)) (v2757 : List Int) (v2761 : Int) (v2762 : Int) (v2763 : Int) (v2764 : Int) (v2765 : Int) (v2766 : Int) (v2767 : Int) (v2768 : Int) (v2769 : Int) (v2770 : Int) (v2771 : Int) (v2772 : Int) : Option Bool :=
  (play_Dice_Field (v2757, v2761)).bind fun u2790 => law43_BoundsSteps_L9 (law43_BoundsSteps_J8 rec2749 z2775 z2776 u2790.2.1 z2781) z2775 z2777 u2790.2.2 x2784.1 x2784.2.1 x2784.2.2.1 x2784.2.2.2 v2762 v2763 v2764 v2765 v2766 v2767 v2768 v2769 v2770 v2771 v2772 ([v2768, u2790.1] : List Int)
def law43_BoundsSteps_L10 (kx1336 : (List Int) → Int → Int → Int → Int → Int → Int → Int → Int → Int → Int → Int → Int → Option Bool) (z2775 : Int) (z2776 : Int) (z2777 : Int) (z2781 : List (Int × Int)) : (List (Int × Int × Int × Int)) → (List Int) → Int → Int → Int → Int → Int → Int → Int → Int → Int → Int → Int → Int → Option Bool
  | [], v2757, v2761, v2762, v2763, v2764, v2765, v2766, v2767, v2768, v2769, v2770, v2771, v2772 => kx1336 v2757 v2761 v2762 v2763 v2764 v2765 v2766 v2767 v2768 v2769 v2770 v2771 v2772
  | x2784 :: xs, v2757, v2761, v2762, v2763, v2764, v2765, v2766, v2767, v2768, v2769, v2770, v2771, v2772 => law43_BoundsSteps_B10 kx1336 z2775 z2776 z2777 z2781 (law43_BoundsSteps_L10 kx1336 z2775 z2776 z2777 z2781 xs) x2784 v2757 v2761 v2762 v2763 v2764 v2765 v2766 v2767 v2768 v2769 v2770 v2771 v2772
def law43_BoundsSteps (x0 : (List Int)) (x1 : (Int × Int × Int × Int)) (x2 : Int) (x3 : Int) (x4 : Int) (x5 : Int) (x6 : Int) (x7 : (Int × (List (Int × Int)))) (x8 : (Int × (List ByteArray))) : Option Bool :=
  (law43_sane).bind fun u5 => if ((!u5) = true) then (some false) else
 if ((5 < (x7.2.length : Int)) ∨ (12 < (x8.2.length : Int))) then (some true) else
(play_New x0).bind fun u19 => (play_Mod x4 64).bind fun u27 => (play_Mod x5 16).bind fun u31 => (play_Dice_Scheme u19).bind fun u35 => (bounds_Notes u35.1 (w64 (1 + u31))).bind fun u43 => (ref43_Notes u35.1 (w64 (1 + u31))).bind fun u47 => (if (u43 ≠ u47) then (some true) else (bounds_Words u35.1 (w64 (1 + u27)) (w64 (1 + u31))).bind fun u3384 => (ref43_Words u35.1 (w64 (1 + u27)) (w64 (1 + u31))).bind fun u3388 => some (decide (u3384 ≠ u3388))).bind fun u61 => (if (u61 = true) then (some true) else (bounds_Steps u35.1 (w64 (1 + u27)) (w64 (1 + u31))).bind fun u3374 => (ref43_Steps u35.1 (w64 (1 + u27)) (w64 (1 + u31))).bind fun u3378 => some (decide (u3374 ≠ u3378))).bind fun u76 => if (u76 = true) then (some false) else
(play_Dice_Odd u35.2).bind fun u84 => law43_BoundsSteps_L10 (law43_BoundsSteps_J5 x3 x6 x8.2 x7.2) x3 x4 x5 x7.2 ([u35.1, x1, u84.1] : List (Int × Int × Int × Int)) u84.2.1 u84.2.2 u35.1.1 u35.1.2.1 u35.1.2.2.1 u35.1.2.2.2 x8.1 x7.1 x2 x1.1 x1.2.1 x1.2.2.1 x1.2.2.2
end Go.Proofs.YtnfalgmfmiolbaaGreat
end

section
namespace Go.Proofs.YtnfalgmfmiolbaaGreat
open Go.RowKit
section
variable {P : Program} {c : Cx} {R : Value → World → Prop} {nt : Nat} {w0 : World} {S0 : List Nat} {df : List Deferred} {ρ ρ' : Env} {Fs Fs' Fin B : List Hp} {bl bl' : Blks} {sl sl' : List OwnS}
  {K K' : Act → World → Prop} {k : List Item} {ty : TypeId} {G : Hp} {α : Type}
theorem QOp.cap {t el : TypeId} {x : Operand} {a : Option Addr} {n m : Nat} (hx : ev ρ x = some (.slice a n m)) (ht : slOf P t = some el) : QOp P ρ Fs bl sl (.call ⟨.builtin .cap, #[x], #[t]⟩) ty (.int .i64 m) := .of fun e he w _ => by
  refine run_builtin (run_v ?_)
  have hu := slOf_spec ht
  simp [Builtin.cap_, he x _ hx, run_underlying hu, goInt]
end
end Go.Proofs.YtnfalgmfmiolbaaGreat
end

section
namespace Go.Proofs.YtnfalgmfmiolbaaGreat
open Go.RowKit
def YieldsX (P : Program) (y : Value) (V : Nat → List Value → Prop) (Fs : List Hp) (𝒢 : Nat → Guest → Prop) (ℰ : Guest → Prop) : Prop :=
  ∃ l, y = .func (.yield l) #[] #[] ∧ ∀ (i : Nat) (v : List Value), V i v → ∀ R, 𝒢 i R → ∀ w, (∀ G ∈ Fs, HpIn G w) → R.holds w →
    ∃ f tmps as1 body, (Instr.yield l v.toArray).run P w = .ok (.round l f tmps as1 body) w ∧
      RoundV P l f tmps as1 body w fun r w' => ∃ R', ((r = .bool true ∧ 𝒢 (i + 1) R') ∨ (r = .bool false ∧ ℰ R')) ∧ R'.holds w' ∧ Keep w R.blks w' ∧ ∀ b ∈ R'.blks, b ∈ R.blks ∨ w.heap.size ≤ b
def IterX (P : Program) (f : FuncId) (cap : List Value) (Fs : List Hp) (N : Nat) (V : Nat → List Value → Prop) : Prop :=
  ∀ (y : Value) (𝒢 : Nat → Guest → Prop) (ℰ : Guest → Prop) (R0 : Guest), YieldsX P y V Fs 𝒢 ℰ → 𝒢 0 R0 → RetG P f (y :: cap).toArray Fs [] [.g R0] fun _ _ bl sl => bl = [] ∧ ∃ R, (𝒢 N R ∨ ℰ R) ∧ sl = [.g R]
def IterRX (P : Program) {α : Type} (Y : Yr α) (f : FuncId) (cap : List Value) (G : Hp) (l : List α) : Prop :=
  ∀ Fs G1, HpLe G G1 → G1 ∈ Fs → IterX P f cap Fs l.length (fun i v => ∃ x, l[i]? = some x ∧ Y.r G1 v x)
theorem IterRX.mono {P : Program} {α : Type} {Y : Yr α} {f : FuncId} {cap : List Value} {G G' : Hp} {l : List α} (hg : HpLe G G') (h : IterRX P Y f cap G l) : IterRX P Y f cap G' l := fun Fs G1 h1 h2 => h Fs G1 (hg.trans h1) h2
section
variable {P : Program} {c : Cx} {R0 : Value → World → Prop} {nt : Nat} {w0 : World} {S0 : List Nat} {df : List Deferred} {ρ ρ' : Env} {Fs Fs' Fin : List Hp} {bl bl' bls : Blks} {sl sl' sls : List OwnS}
  {K K' : Act → World → Prop} {k : List Item} {ty : TypeId}
section
variable {α β : Type} {FsD : α → List Hp} {blD : α → Blks} {slD : α → List OwnS} {FsE : β → List Hp} {blE : β → Blks} {slE : β → List OwnS} {FsS FinR : List Hp} {I1 : α → Prop} {IE : β → Prop} {l : Nat} {le : β → Obj} {f : FuncId} {tmps : Array Value} {ps : Array Tmp} {as1 body : Code} {D : Nat}
end
section
variable {α β : Type} {FsD : α → List Hp} {blD : α → Blks} {slD : α → List OwnS} {FsE : β → List Hp} {blE : β → Blks} {slE : β → List OwnS} {FsS : List Hp} {l : Nat} {lo : Obj} {le : β → Obj}
end
end
end Go.Proofs.YtnfalgmfmiolbaaGreat
end

section
namespace Go.Proofs.YtnfalgmfmiolbaaGreat
open Go.RowKit
def viewG (b : Option Nat) (T : TypeId) (pre cs post : List Value) : Guest where
  blks := b.toList
  nodup := by cases b <;> simp
  holds w := ∀ g, b = some g → w.heap[g]? = some (.cells (pre ++ cs ++ post).toArray T (0, 0))
  lt w h x hx := by
    cases b with
    | none => simp at hx
    | some g => simp at hx; subst hx; exact own_lt (h _ rfl)
  same w w' h e g hg := by subst hg; rw [e g (by simp)]; exact h g rfl
def VA (a : Option Addr) (b : Option Nat) (n k : Nat) (pre cs : List Value) : Prop := n ≤ k ∧ (cs ≠ [] → ∃ g, b = some g ∧ a = some ⟨g, pre.length, none⟩)
def VB (a : Option Addr) (b : Option Nat) (n k sz : Nat) (post : List Value) : Prop :=
  (a = none ∧ b = none ∧ n = 0 ∧ k = 0) ∨ ∃ g, a = some ⟨g, 0, none⟩ ∧ b = some g ∧ n ≤ k ∧ k ≤ maxLen ∧ n * sz + post.length = k * sz
theorem flat_len {sz : Nat} : ∀ {xs : List (List Value)}, (∀ x ∈ xs, x.length = sz) → xs.flatten.length = xs.length * sz
  | [], _ => by simp
  | x :: xs, h => by simp only [List.flatten_cons, List.length_append, List.length_cons, Nat.add_mul]; rw [h x List.mem_cons_self, flat_len fun y hy => h y (List.mem_cons_of_mem _ hy)]; omega
theorem OL.clen {α : Type} {Q : Rep α} {G : Hp} {cs : List Value} {l : List α} (h : OL Q G cs l) : cs.length = l.length * Q.sz := by
  obtain ⟨_, xs, rfl, h3, h4⟩ := h
  rw [flat_len h3, h4.1]
theorem VA.len {a : Option Addr} {b : Option Nat} {n n' k : Nat} {pre cs cs' : List Value} (h : VA a b n k pre cs) (hn : n' = n) (hc : cs'.length = cs.length) : VA a b n' k pre cs' :=
  ⟨hn ▸ h.1, fun hne => h.2 fun e => hne (by rw [e] at hc; exact List.eq_nil_of_length_eq_zero hc)⟩
theorem VA.call {α : Type} {Q : Rep α} {G G' : Hp} {a : Option Addr} {b : Option Nat} {k : Nat} {pre cs cs' : List Value} {l l' : List α} (h : VA a b l.length k pre cs) (ho : OL Q G cs l) (ho' : OL Q G' cs' l') (hl : l'.length = l.length) : VA a b l'.length k pre cs' :=
  h.len hl (by rw [ho.clen, ho'.clen, hl])
theorem view_cells {w : World} {a : Option Addr} {b : Option Nat} {n k : Nat} {T : TypeId} {pre cs post : List Value} (h : (viewG b T pre cs post).holds w) (va : VA a b n k pre cs) (hn : 0 < cs.length) :
    ∃ g, a = some ⟨g, pre.length, none⟩ ∧ b = some g ∧ w.heap[g]? = some (.cells (pre ++ cs ++ post).toArray T (0, 0)) ∧ ∀ (q : Nat) (v : Value), cs[q]? = some v → w.cell? ⟨g, pre.length + q, none⟩ = some v := by
  obtain ⟨g, hb, ha⟩ := va.2 (by rintro rfl; simp at hn)
  have hw := h g hb
  refine ⟨g, ha, hb, hw, fun q v hq => ?_⟩
  rw [cell_of_row w g _ _ T (0, 0) hw]
  have hl : q < cs.length := (List.getElem?_eq_some_iff.1 hq).1
  simp only [List.getElem?_toArray]
  rw [List.append_assoc, List.getElem?_append_right (by omega), Nat.add_sub_cancel_left, List.getElem?_append_left hl]
  exact hq
def Rd (s : OwnS) (G : Hp) : Prop := ∃ w, s.holds w ∧ ∀ b ∈ s.blocks, G b = w.heap[b]?
def Rep.flat {α : Type} (Q : Rep α) : Prop := ∀ (G G' : Hp) (c : List Value) (x : α), Q.r G c x → Q.r G' c x
theorem Rep.flat_int (k : IntKind) : (Rep.int k).flat := fun _ _ _ _ h => h
theorem Rep.flat_bool : Rep.bool.flat := fun _ _ _ _ h => h
theorem OL.flat {α : Type} {Q : Rep α} (hf : Q.flat) {G G' : Hp} {cs : List Value} {l : List α} (h : OL Q G' cs l) : OL Q G cs l := by
  obtain ⟨hb, xs, h1, h3, h4, h5⟩ := h
  exact ⟨hb, xs, h1, h3, h4, fun i c x hc hx => hf _ _ _ _ (h5 i c x hc hx)⟩
section
variable {P : Program} {c : Cx} {R : Value → World → Prop} {nt : Nat} {w0 : World} {S0 : List Nat} {df : List Deferred} {ρ ρ' : Env} {Fs Fs' Fin B : List Hp} {bl bl' : Blks} {sl sl' : List OwnS}
  {K K' : Act → World → Prop} {k : List Item} {ty : TypeId} {α : Type} {G : Hp}
theorem QOp.idxV (q : Nat) {Q : Rep α} {a : Option Addr} {b : Option Nat} {m T sz : Nat} {l : List α} {pre cs post : List Value} {i : Int} {u : α} {kk : IntKind} {t el : TypeId} {x j : Operand} (hs : sl[q]? = some (.g (viewG b T pre cs post))) (va : VA a b l.length m pre cs) (ho : OL Q G cs l)
    (hx : ev ρ x = some (.slice a l.length m)) (hj : ev ρ j = some (.int kk i)) (he : lidx l i = some u) (ht : slOf P t = some el) (hz : szOf P el = some sz) (hn : sz = Q.sz) (h0 : Nat.blt 0 sz = true) : QOp P ρ Fs bl sl (.indexAddr t x j) ty (elemPtr (.slice a l.length m) i.toNat sz) := .of fun e he' w hm => by
  obtain ⟨h3, h4, _⟩ := lidx_some he
  have h0' : 0 < sz := by simpa [Nat.blt_eq] using h0
  have hpos : 0 < cs.length := by rw [ho.clen, ← hn]; exact Nat.mul_pos (by omega) h0'
  obtain ⟨g, rfl, _⟩ := view_cells (hm.slh _ (List.mem_of_getElem? hs)) va hpos
  refine run_v (s := Instr.indexAt t (e x) (e j)) ?_
  rw [he' x _ hx, he' j _ hj]
  exact run_indexAt ht hz h3 h4
theorem elem_cellsV {w : World} {Q : Rep α} {a : Option Addr} {b : Option Nat} {m T sz n : Nat} {l : List α} {pre cs post d : List Value} (h : (viewG b T pre cs post).holds w) (va : VA a b l.length m pre cs) (ho : OL Q G cs l) (hq : sz = Q.sz) (h0 : Nat.blt 0 sz = true) (hn : n < l.length) (he : Elem sz cs n d) :
    ∃ g, a = some ⟨g, pre.length, none⟩ ∧ b = some g ∧ w.heap[g]? = some (.cells (pre ++ cs ++ post).toArray T (0, 0)) ∧ ∀ (q : Nat) (v : Value), d[q]? = some v → w.cell? ⟨g, pre.length + (n * sz + q), none⟩ = some v := by
  have h0' : 0 < sz := by simpa [Nat.blt_eq] using h0
  have hpos : 0 < cs.length := by rw [ho.clen, ← hq]; exact Nat.mul_pos (by omega) h0'
  obtain ⟨g, ha, hb, hw, hc⟩ := view_cells h va hpos
  exact ⟨g, ha, hb, hw, fun q v hv => hc _ _ (he.2 q v hv)⟩
theorem QOp.loadV (q off : Nat) {Q : Rep α} {a : Option Addr} {b : Option Nat} {m T sz s bytes : Nat} {l : List α} {pre cs post d z : List Value} {i : Int} {u : α} {t : TypeId} {x : Operand} {p v : Value} (hs : sl[q]? = some (.g (viewG b T pre cs post))) (va : VA a b l.length m pre cs) (ho : OL Q G cs l) (hn : sz = Q.sz) (h0 : Nat.blt 0 sz = true)
    (he : lidx l i = some u) (hd : Elem sz cs i.toNat d) (hx : ev ρ x = some p) (hp : PtrO p a l.length m i.toNat sz off) (ht : TyI P t false s bytes z) (hv : d[off]? = some v) : QOp P ρ Fs bl sl (.load t x) ty v := .of fun e he' w hm => by
  obtain ⟨h3, h4, _⟩ := lidx_some he
  obtain ⟨g, rfl, _, _, hc⟩ := elem_cellsV (hm.slh _ (List.mem_of_getElem? hs)) va ho hn h0 (by omega) hd
  refine run_v (s := Instr.loadAt t (e x)) ?_
  rw [he' x _ hx]
  rcases hp with ⟨rfl, rfl⟩ | rfl
  · simp only [elemPtr, addr_add]
    exact run_loadVar_s (run_isAgg ht.agg) (by simpa using hc 0 v hv)
  · simp only [elemPtr, ptrAdd, addr_add]
    exact run_loadVar_s (run_isAgg ht.agg) (by rw [Nat.add_assoc]; exact hc off v hv)
theorem OL.upd {Q : Rep α} {sz off : Nat} {cs dc cv : List Value} {l l' : List α} {i : Int} {y : α} (ho : OL Q G cs l) (hn : sz = Q.sz) (hl : lupd l i y = some l') (hd : Elem sz cs i.toNat dc) (hfit : off + cv.length ≤ sz) (hy : Q.r G (dc.take off ++ cv ++ dc.drop (off + cv.length)) y) :
    OL Q G (cs.take (i.toNat * sz + off) ++ cv ++ cs.drop (i.toNat * sz + off + cv.length)) l' ∧ l'.length = l.length ∧ i.toNat < l.length ∧ (cs.take (i.toNat * sz + off) ++ cv ++ cs.drop (i.toNat * sz + off + cv.length)).length = cs.length := by
  subst hn
  obtain ⟨hi0, hil, rfl⟩ := lupd_some hl
  have hcl := ho.clen
  obtain ⟨hb1, xs, rfl, h3, h4⟩ := ho
  have hxs : ∃ ys : List { c : List Value // c.length = Q.sz }, xs = ys.map (·.1) := ⟨xs.attach.map fun c => ⟨c.1, h3 _ c.2⟩, by simp⟩
  obtain ⟨ys, rfl⟩ := hxs
  have e1 : ys.length = l.length := by have := h4.1; simpa using this
  have hj : i.toNat < ys.length := by omega
  have hdc : (ys[i.toNat]).1 = dc := by
    apply List.ext_getElem?
    intro j
    rcases Nat.lt_or_ge j dc.length with h | h
    · have hjl : j < (ys[i.toNat]).1.length := by rw [(ys[i.toNat]).2, ← hd.1]; exact h
      have g1 := get_flatten (ys.map (·.1)) i.toNat (ys[i.toNat]).1 j _ h3 (by rw [List.getElem?_map, List.getElem?_eq_getElem hj]; rfl) (List.getElem?_eq_getElem hjl)
      have g2 := hd.2 j _ (List.getElem?_eq_getElem h)
      rw [g1] at g2
      rw [List.getElem?_eq_getElem hjl, g2, List.getElem?_eq_getElem h]
    · rw [List.getElem?_eq_none h, List.getElem?_eq_none (by rw [(ys[i.toNat]).2, ← hd.1]; exact h)]
  have hlen : (dc.take off ++ cv ++ dc.drop (off + cv.length)).length = Q.sz := by
    simp only [List.length_append, List.length_take, List.length_drop, hd.1]; omega
  have hgd : ys.getD i.toNat ys[i.toNat] = ys[i.toNat] := by rw [List.getD_eq_getElem?_getD, List.getElem?_eq_getElem hj]; rfl
  have hset := flat_set (f := fun c : { c : List Value // c.length = Q.sz } => c.1) (sz := Q.sz) (fun c => c.2) (ys[i.toNat]) (off := off) (c := cv) hfit (y := ⟨_, hlen⟩) ys i.toNat hj (by rw [hgd, hdc])
  have hle : (i.toNat + 1) * Q.sz ≤ l.length * Q.sz := Nat.mul_le_mul_right _ (by omega)
  rw [Nat.add_mul] at hle
  refine ⟨?_, List.length_set, by omega, by simp only [List.length_append, List.length_take, List.length_drop]; omega⟩
  rw [hset]
  refine ⟨by simp; omega, _, rfl, fun c hc => by obtain ⟨c', _, rfl⟩ := List.mem_map.1 hc; exact c'.2, by simp [e1], fun j c x hc hx => ?_⟩
  simp only [List.getElem?_map, List.getElem?_set] at hc hx
  by_cases hij : i.toNat = j
  · subst hij
    rw [if_pos rfl] at hc hx
    simp [hj, show i.toNat < l.length by omega] at hc hx
    subst hc hx
    simpa only [List.append_assoc] using hy
  · rw [if_neg hij] at hc hx
    exact h4.2 j c x (by rw [List.getElem?_map]; exact hc) hx
theorem Cov.storeV (q : Nat) (off : Nat) {Q : Rep α} {a : Option Addr} {b : Option Nat} {m T sz : Nat} {l l' : List α} {pre cs post dc : List Value} {i : Int} {y : α} {t : TypeId} {x u : Operand} {v p : Value} {agg : Bool} {bytes : Nat} {z : List Value} (hs : Stp P K' ⟨none, .store t x u, ty, none⟩ K)
    (hi : sl[q]? = some (.g (viewG b T pre cs post))) (va : VA a b l.length m pre cs) (hn : sz = Q.sz) (h0 : Nat.blt 0 sz = true) (ho : OL Q G cs l) (hl : lupd l i y = some l') (hx : ev ρ x = some p) (hp : PtrO p a l.length m i.toNat sz off) (hu : ev ρ u = some v) (ht : TyI P t agg (cellsL v).length bytes z) (hd : Elem sz cs i.toNat dc)
    (hy : Q.r G (dc.take off ++ cellsL v ++ dc.drop (off + (cellsL v).length)) y) (h1 : (cellsL v).all (·.oneCell') = true) (hfit : Nat.ble (off + (cellsL v).length) sz = true)
    (hk : ∀ cs', l'.length = l.length → OL Q G cs' l' → VA a b l'.length m pre cs' → Cov nt w0 S0 df ρ Fs bl (sl.set q (.g (viewG b T pre cs' post))) K) : Cov nt w0 S0 df ρ Fs bl sl K' := fun aa w hfi hinv => by
  refine hs aa w ?_
  have hfit' : off + (cellsL v).length ≤ sz := by simpa [Nat.ble_eq] using hfit
  obtain ⟨ho', hll, hil, hcl⟩ := ho.upd hn hl hd hfit' hy
  obtain ⟨g, rfl, rfl, hw, _⟩ := elem_cellsV (hinv.mem.slh _ (List.mem_of_getElem? hi)) va ho hn h0 hil hd
  have hle : i.toNat * sz + off + (cellsL v).length ≤ cs.length := by
    rw [ho.clen, ← hn]
    have : (i.toNat + 1) * sz ≤ l.length * sz := Nat.mul_le_mul_right _ hil
    rw [Nat.add_mul] at this
    omega
  obtain ⟨w', hr, kw, hb'⟩ := storeVar_run (P := P) (cs := pre ++ cs ++ post) (o := pre.length + (i.toNat * sz + off)) (cs' := pre ++ (cs.take (i.toNat * sz + off) ++ cellsL v ++ cs.drop (i.toNat * sz + off + (cellsL v).length)) ++ post) ht hw h1 (by simp only [List.length_append]; omega) (by
    have e1 : (pre ++ cs ++ post).take (pre.length + (i.toNat * sz + off)) = pre ++ cs.take (i.toNat * sz + off) := by
      rw [List.append_assoc, List.take_append, Nat.add_sub_cancel_left, List.take_of_length_le (l := pre) (by omega), List.take_append_of_le_length (by omega)]
    have e2 : (pre ++ cs ++ post).drop (pre.length + (i.toNat * sz + off) + (cellsL v).length) = cs.drop (i.toNat * sz + off + (cellsL v).length) ++ post := by
      rw [List.append_assoc, Nat.add_assoc, List.drop_append, Nat.add_sub_cancel_left, List.drop_of_length_le (l := pre) (by omega), List.nil_append, List.drop_append_of_le_length (by omega)]
    rw [e1, e2]
    simp only [List.append_assoc])
  have hrun : (execOp aa.eval (⟨none, .store t x u, ty, none⟩ : OpX).oper).run P w = .ok .skip w' := by
    refine run_u (s := Instr.storeAt t (aa.eval x) (aa.eval u)) ?_
    rw [ev_sound hfi hx, ev_sound hfi hu]
    rcases hp with ⟨rfl, rfl⟩ | rfl
    · simp only [elemPtr, addr_add]
      exact hr
    · simp only [elemPtr, ptrAdd, addr_add, Nat.add_assoc] at hr ⊢
      exact hr
  unfold Oper.wp
  rw [hrun]
  refine hk _ hll ho' (va.len hll hcl) _ _ (hfi.put_none _) (hinv.set_s q hi (s' := .g (viewG (some g) T pre _ post)) (by simpa [OwnS.blocks, viewG] using kw) ?_ (by simp [OwnS.blocks, viewG]) (fun b hb => .inl (by simpa [OwnS.blocks, viewG] using hb)))
  intro g' hg'
  cases hg'
  exact hb'
theorem Inv.set_same {w : World} (h : Inv w0 S0 Fs bl sl w) (i : Nat) {s s' : OwnS} (hi : sl[i]? = some s) (hs : s'.holds w) (hnd : s'.blocks.Nodup) (hb : ∀ b ∈ s'.blocks, b ∈ s.blocks) : Inv w0 S0 Fs bl (sl.set i s') w :=
  h.set_s i hi (Keep.refl w _) hs hnd fun b h => .inl (hb b h)
theorem Cov.toV (q : Nat) {a : Option Addr} {n m T sz : Nat} {cs : List Value} (hi : sl[q]? = some (.s (.slice a n m) T sz n cs))
    (hk : ∀ b post, VA a b n m [] cs → VB a b n m sz post → Cov nt w0 S0 df ρ Fs bl (sl.set q (.g (viewG b T [] cs post))) K) : Cov nt w0 S0 df ρ Fs bl sl K := fun aa w hfi hinv => by
  have hown : w.ownsRow 0 T sz (.slice a n m) n cs := hinv.mem.slh _ (List.mem_of_getElem? hi)
  rcases hown.2 with ⟨hv, h0⟩ | ⟨g, cap, cur, hv, _, hg, hnc, hm2, hcs, htk⟩
  · cases hv
    have hc0 : cs = [] := List.eq_nil_of_length_eq_zero (by rw [hown.1]; simp)
    subst hc0
    exact hk none [] ⟨Nat.le_refl _, fun h => absurd rfl h⟩ (.inl ⟨rfl, rfl, rfl, rfl⟩) _ _ hfi (hinv.set_same q hi (s' := .g (viewG none T [] [] [])) (fun g hg => by cases hg) (by simp [OwnS.blocks, viewG]) (by simp [OwnS.blocks, viewG]))
  · cases hv
    have hcur : cur = ([] ++ cs ++ cur.toList.drop (n * sz)).toArray := by rw [← htk]; simp
    refine hk (some g) (cur.toList.drop (n * sz)) ⟨hnc, fun _ => ⟨g, rfl, rfl⟩⟩ (.inr ⟨g, rfl, rfl, hnc, hm2, ?_⟩) _ _ hfi (hinv.set_same q hi (s' := .g (viewG (some g) T [] cs (cur.toList.drop (n * sz)))) (fun g' hg' => ?_) (by simp [OwnS.blocks, viewG]) (by simp [OwnS.blocks, viewG, Value.ownBlock]))
    · have : n * sz ≤ m * sz := Nat.mul_le_mul_right _ hnc
      simp only [List.length_drop, Array.length_toList, hcs]; omega
    · cases hg'; rw [hg]; exact congrArg (fun c => some (Obj.cells c T (0, 0))) hcur
theorem Cov.ofV (q : Nat) {Q : Rep α} {a : Option Addr} {b : Option Nat} {n m T sz : Nat} {cs post : List Value} {l : List α} (hi : sl[q]? = some (.g (viewG b T [] cs post))) (vb : VB a b n m sz post) (hl : l.length = n) (ho : OL Q G cs l) (hn : sz = Q.sz)
    (hk : Cov nt w0 S0 df ρ Fs bl (sl.set q (.s (.slice a l.length m) T sz l.length cs)) K) : Cov nt w0 S0 df ρ Fs bl sl K := fun aa w hfi hinv => by
  subst hl
  have hh : (viewG b T [] cs post).holds w := hinv.mem.slh _ (List.mem_of_getElem? hi)
  have hcl := ho.clen
  rcases vb with ⟨rfl, rfl, h0, rfl⟩ | ⟨g, rfl, rfl, h1, h2, h3⟩
  · have hc0 : cs = [] := List.eq_nil_of_length_eq_zero (by rw [hcl, h0]; simp)
    refine hk _ _ hfi (hinv.set_same q hi (s' := .s (.slice none l.length 0) T sz l.length cs) ?_ (by simp [OwnS.blocks, Value.ownBlock]) (by simp [OwnS.blocks, Value.ownBlock]))
    rw [hc0, h0]
    exact World.ownsRow_nil w 0 T sz
  · refine hk _ _ hfi (hinv.set_same q hi (s' := .s (.slice (some ⟨g, 0, none⟩) l.length m) T sz l.length cs) ?_ (by simp [OwnS.blocks, Value.ownBlock]) (by simp [OwnS.blocks, Value.ownBlock, viewG]))
    refine ⟨by rw [hcl, hn], .inr ⟨g, m, _, rfl, Nat.zero_le _, hh g rfl, h1, h2, ?_, ?_⟩⟩
    · simp only [List.nil_append, List.size_toArray, List.length_append, hcl, ← hn]; exact h3
    · simp only [List.nil_append]
      exact List.take_left' (by rw [hcl, hn])
theorem SlR.rd {Q : Rep α} {G' : Hp} {a : Option Addr} {m T sz : Nat} {l : List α} {cs : List Value} (ho : OL Q G cs l) (hn : sz = Q.sz) (hle : HpLe G G') (h : Rd (.s (.slice a l.length m) T sz l.length cs) G') : SlR Q G' a m l := by
  obtain ⟨w, hh, hb⟩ := h
  have hown : w.ownsRow 0 T sz (.slice a l.length m) l.length cs := hh
  have hlb := ho.1
  obtain ⟨_, xs, rfl, h3, h4⟩ := ho
  have e1 : xs.length = l.length := h4.1
  refine ⟨by omega, xs, ⟨a, m, by rw [e1], ?_, fun x hx => h3 x hx, fun hne => ?_⟩, h4.mono hle⟩
  · rw [e1]
    rcases hown.2 with ⟨hv, h0⟩ | ⟨g, cap, cur, hv, _, hg, hnc, hm2, hcs, htk⟩
    · simp only [Value.slice.injEq] at hv; omega
    · simp only [Value.slice.injEq] at hv; omega
  · rcases hown.2 with ⟨hv, h0⟩ | ⟨g, cap, cur, hv, _, hg, hnc, hm2, hcs, htk⟩
    · rw [h0] at e1; exact absurd (List.eq_nil_of_length_eq_zero e1) hne
    · cases hv
      refine ⟨g, 0, rfl, fun i x hx j v hj => ?_⟩
      have := hb g (by simp [OwnS.blocks, Value.ownBlock])
      unfold rcell
      rw [this, hg]
      have hfl := get_flatten xs i x j v h3 hx hj
      have hlt : i * Q.sz + j < l.length * Q.sz := by
        have hi : i < xs.length := (List.getElem?_eq_some_iff.1 hx).1
        have hj' : j < Q.sz := by rw [← h3 x (List.mem_of_getElem? hx)]; exact (List.getElem?_eq_some_iff.1 hj).1
        have : (i + 1) * Q.sz ≤ l.length * Q.sz := Nat.mul_le_mul_right _ (by omega)
        rw [Nat.add_mul] at this
        omega
      rw [← htk, hn, List.getElem?_take_of_lt hlt] at hfl
      simpa using hfl
theorem RetW.flat {f : FuncId} {args : Array Value} {bin : Blks} {sin : List OwnS} {Q : Value → Blks → List OwnS → Hp → Prop} (h : RetW P f args Fs bin sin Q) : RetG P f args Fs bin sin fun v _ bo so => ∃ G2, Q v bo so G2 :=
  fun w h1 h2 h3 h4 h5 => (h w h1 h2 h3 h4 h5).mono fun _ w' ⟨Fr, bo, so, a, b, d⟩ => ⟨Fr, bo, so, a, b, whole w', d _ fun F hF x o hx => b.mem.fs F hF x o hx⟩
theorem Inv.lendB {w : World} {s1 sB s2 : List OwnS} (hi : Inv w0 S0 (G :: B) bl (s1 ++ (sB ++ s2)) w) : ∃ G', HpLe G G' ∧ (∀ s ∈ sB, Rd s G') ∧ Inv w0 S0 (G' :: G :: B) bl (s1 ++ s2) w ∧ (∀ Fin, Bd w0 S0 Fin G → Bd w0 S0 Fin G') ∧
    ∀ w' Fs2 bo so, Inv w0 S0 (Fs2 ++ G' :: G :: B) bo (so ++ s2) w' → Inv w0 S0 (G :: B) bo (so ++ (sB ++ s2)) w' := by
  classical
  let G' : Hp := fun b => if b ∈ sB.flatMap OwnS.blocks then w.heap[b]? else G b
  have hblk : ∀ b, b ∈ blks bl (s1 ++ (sB ++ s2)) ↔ b ∈ blks bl (s1 ++ s2) ∨ b ∈ sB.flatMap OwnS.blocks := fun b => by
    simp only [blks, List.flatMap_append, List.mem_append]
    constructor
    · rintro (h | h | h | h) <;> simp [h]
    · rintro ((h | h | h) | h) <;> simp [h]
  have hperm : (blks bl (s1 ++ (sB ++ s2))).Perm (sB.flatMap OwnS.blocks ++ blks bl (s1 ++ s2)) := by
    simp only [blks, List.flatMap_append]
    have e1 : (s1.flatMap OwnS.blocks ++ (sB.flatMap OwnS.blocks ++ s2.flatMap OwnS.blocks)).Perm (sB.flatMap OwnS.blocks ++ (s1.flatMap OwnS.blocks ++ s2.flatMap OwnS.blocks)) := by
      rw [← List.append_assoc, ← List.append_assoc]; exact List.perm_append_comm.append_right _
    exact (e1.append_left _).trans (List.perm_append_comm_assoc _ _ _)
  have hnd := List.nodup_append.1 (hperm.nodup_iff.1 hi.nodup)
  have hmine : ∀ b ∈ sB.flatMap OwnS.blocks, b ∈ blks bl (s1 ++ (sB ++ s2)) := fun b hb => (hblk b).2 (.inr hb)
  have hapG : ∀ b ∈ sB.flatMap OwnS.blocks, ∀ F ∈ G :: B, F b = none := fun b hb F hF => hi.apart b (hmine b hb) F hF
  have hle : HpLe G G' := fun b o hb => by
    show (if _ then _ else _) = _
    rw [if_neg fun h => by rw [hapG b h G List.mem_cons_self] at hb; cases hb]; exact hb
  have hG'w : HpIn G' w := fun b o hb => by
    have hb' : (if b ∈ sB.flatMap OwnS.blocks then w.heap[b]? else G b) = some o := hb
    split at hb'
    · exact hb'
    · exact hi.mem.fs G List.mem_cons_self b o hb'
  have hval : ∀ b ∈ sB.flatMap OwnS.blocks, G' b = w.heap[b]? := fun b hb => by show (if _ then _ else _) = _; rw [if_pos hb]
  have hhold : ∀ s ∈ sB, s.holds w := fun s hs => hi.mem.slh s (List.mem_append_right _ (List.mem_append_left _ hs))
  refine ⟨G', hle, fun s hs => ⟨w, hhold s hs, fun b hb => hval b (List.mem_flatMap.2 ⟨s, hs, hb⟩)⟩, ?_, fun Fin hbd b o hb => ?_, ?_⟩
  · refine hi.change [] (by simp) (Keep.refl w []) (fun F hF => ?_) hi.mem.own (fun s hs => hi.mem.slh s ?_) hnd.2.1 (fun b hb => .inl ((hblk b).2 (.inl hb)))
    · rcases List.mem_cons.1 hF with rfl | hF
      · refine .inr ⟨hG'w, fun b hb => ?_⟩
        have hn : b ∉ sB.flatMap OwnS.blocks := fun h => hnd.2.2 b h b hb rfl
        show (if _ then _ else _) = _
        rw [if_neg hn]
        exact hi.apart b ((hblk b).2 (.inl hb)) G List.mem_cons_self
      · exact .inl hF
    · rcases List.mem_append.1 hs with h | h
      · exact List.mem_append_left _ h
      · exact List.mem_append_right _ (List.mem_append_right _ h)
  · by_cases hm : b ∈ sB.flatMap OwnS.blocks
    · rcases hi.mine b (hmine b hm) with h | h
      · exact .inr (.inl h)
      · exact .inl h
    · refine hbd b o ?_
      have hb' : (if b ∈ sB.flatMap OwnS.blocks then w.heap[b]? else G b) = some o := hb
      rwa [if_neg hm] at hb'
  · intro w' Fs2 bo so hi'
    have hG'm : G' ∈ Fs2 ++ G' :: G :: B := List.mem_append_right _ List.mem_cons_self
    have hblk' : ∀ b, b ∈ blks bo (so ++ (sB ++ s2)) ↔ b ∈ blks bo (so ++ s2) ∨ b ∈ sB.flatMap OwnS.blocks := fun b => by
      simp only [blks, List.flatMap_append, List.mem_append]
      constructor
      · rintro (h | h | h | h) <;> simp [h]
      · rintro ((h | h | h) | h) <;> simp [h]
    have hperm' : (blks bo (so ++ (sB ++ s2))).Perm (sB.flatMap OwnS.blocks ++ blks bo (so ++ s2)) := by
      simp only [blks, List.flatMap_append]
      have e1 : (so.flatMap OwnS.blocks ++ (sB.flatMap OwnS.blocks ++ s2.flatMap OwnS.blocks)).Perm (sB.flatMap OwnS.blocks ++ (so.flatMap OwnS.blocks ++ s2.flatMap OwnS.blocks)) := by
        rw [← List.append_assoc, ← List.append_assoc]; exact List.perm_append_comm.append_right _
      exact (e1.append_left _).trans (List.perm_append_comm_assoc _ _ _)
    have hlt : ∀ b ∈ sB.flatMap OwnS.blocks, ∃ o, w.heap[b]? = some o := fun b hb => by
      obtain ⟨s, hs, hb⟩ := List.mem_flatMap.1 hb
      exact ⟨_, Array.getElem?_eq_getElem (OwnS.lt (hhold s hs) b hb)⟩
    have hsame : ∀ b ∈ sB.flatMap OwnS.blocks, w'.heap[b]? = w.heap[b]? := fun b hb => by
      obtain ⟨o, ho⟩ := hlt b hb
      rw [ho]; exact hi'.mem.fs G' hG'm b o (by rw [hval b hb]; exact ho)
    refine ⟨⟨fun F hF => hi'.mem.fs F (List.mem_append_right _ (List.mem_cons_of_mem _ hF)), hi'.mem.own, fun s hs => ?_⟩, hi'.keep, ?_, fun b hb => ?_, fun b hb F hF => ?_⟩
    · rcases List.mem_append.1 hs with h | h
      · exact hi'.mem.slh s (List.mem_append_left _ h)
      · rcases List.mem_append.1 h with h | h
        · exact OwnS.same (hhold s h) fun b hb => hsame b (List.mem_flatMap.2 ⟨s, h, hb⟩)
        · exact hi'.mem.slh s (List.mem_append_right _ h)
    · rw [hperm'.nodup_iff, List.nodup_append]
      refine ⟨hnd.1, hi'.nodup, fun a ha b hb e => ?_⟩
      subst e
      have h1 := hi'.apart a hb G' hG'm
      obtain ⟨o, ho⟩ := hlt a ha
      rw [hval a ha, ho] at h1
      cases h1
    · rcases (hblk' b).1 hb with h | h
      · exact hi'.mine b h
      · exact hi.mine b (hmine b h)
    · rcases (hblk' b).1 hb with h | h
      · exact hi'.apart b h F (List.mem_append_right _ (List.mem_cons_of_mem _ hF))
      · exact hapG b h F hF
theorem Cov.callB {b1 b2 : Blks} {s1 sB s2 : List OwnS} (vs cap : List Value) {d : Nat} {f : FuncId} {fop : Operand} {args : Array Operand} {ts : Array TypeId} {Q : Value → Blks → List OwnS → Prop} (hs : Stp P K' ⟨some d, .call ⟨.value fop, args, ts⟩, ty, none⟩ K)
    (hf : ev ρ fop = some (.func (.func f) #[] cap.toArray)) (ha : args.toList.map (ev ρ) = vs.map some) (hcall : ∀ args w, (callFunc f args).run P w = .ok (.enter f args) w) (hbl : bl = b1 ++ b2) (hsl : sl = s1 ++ (sB ++ s2))
    (hr : ∀ Fs' G', HpLe G G' → (∀ s ∈ sB, Rd s G') → G' ∈ Fs' → RetG P f (vs ++ cap).toArray Fs' b1 s1 (fun v _ bo so => Q v bo so)) (hd : Nat.blt d nt = true)
    (hk : ∀ v bo so, Q v bo so → Cov nt w0 S0 df ((d, v) :: ρ) (G :: B) (bo ++ b2) (so ++ (sB ++ s2)) K) : Cov nt w0 S0 df ρ (G :: B) bl sl K' := fun a w hfi hi => by
  subst hsl
  obtain ⟨G', hle, hrd, hi2, _, hback⟩ := hi.lendB
  exact Cov.callg vs cap hs hf ha hcall hbl rfl (hr (G' :: G :: B) G' hle hrd List.mem_cons_self) hd (fun v Fr bo so _ hq a' w' hf' hi' => hk v bo so hq a' w' hf' (hback w' [Fr] _ _ hi')) a w hfi hi2
end
end Go.Proofs.YtnfalgmfmiolbaaGreat
end

section
namespace Go.Proofs.YtnfalgmfmiolbaaGreat
open Go.RowKit
structure NE where
  a : Option Addr
  n : Nat
  k : Nat
  cs : List Value
def NE.nil : NE := ⟨none, 0, 0, []⟩
def NE.h (e : NE) : Option Addr × Nat × Nat := (e.a, e.n, e.k)
def NE.s (T : TypeId) (m : Nat) (e : NE) : OwnS := .s (.slice e.a e.n e.k) T m e.n e.cs
def nblks (T : TypeId) (m : Nat) (es : List NE) : List Nat := es.flatMap fun e => (e.s T m).blocks
def packG (T : TypeId) (m : Nat) (es : List NE) : Guest where
  blks := if (nblks T m es).Nodup then nblks T m es else []
  nodup := by split; assumption; simp
  holds w := (nblks T m es).Nodup ∧ ∀ e ∈ es, (e.s T m).holds w
  lt w h b hb := by
    rw [if_pos h.1] at hb
    obtain ⟨e, he, hb⟩ := List.mem_flatMap.1 hb
    exact OwnS.lt (h.2 e he) b hb
  same w w' h hs := ⟨h.1, fun e he => OwnS.same (h.2 e he) fun b hb => hs b (by rw [if_pos h.1]; exact List.mem_flatMap.2 ⟨e, he, hb⟩)⟩
def Rep.hdr : Rep (Option Addr × Nat × Nat) where
  sz := 1
  r _ c x := c = [.slice x.1 x.2.1 x.2.2]
  len h := by rw [h]; rfl
  mono _ h := h
  one h := by rw [h]; rfl
def NL {α : Type} (Q : Rep α) (G : Hp) (es : List NE) (cs : List Value) (x : List (List α)) : Prop :=
  OL Rep.hdr G cs (es.map NE.h) ∧ es.length = x.length ∧ ∀ (i : Nat) (e : NE) (y : List α), es[i]? = some e → x[i]? = some y → e.n = y.length ∧ OL Q G e.cs y
theorem NL.mono {α : Type} {Q : Rep α} {G G' : Hp} {es : List NE} {cs : List Value} {x : List (List α)} (hg : HpLe G G') (h : NL Q G es cs x) : NL Q G' es cs x :=
  ⟨h.1.mono hg, h.2.1, fun i e y h1 h2 => ⟨(h.2.2 i e y h1 h2).1, (h.2.2 i e y h1 h2).2.mono hg⟩⟩
theorem Rep.flat_hdr : Rep.hdr.flat := fun _ _ _ _ h => h
theorem NL.flat {α : Type} {Q : Rep α} (hf : Q.flat) {G G' : Hp} {es : List NE} {cs : List Value} {x : List (List α)} (h : NL Q G' es cs x) : NL Q G es cs x :=
  ⟨OL.flat Rep.flat_hdr h.1, h.2.1, fun i e y h1 h2 => ⟨(h.2.2 i e y h1 h2).1, OL.flat hf (h.2.2 i e y h1 h2).2⟩⟩
theorem NL.len' {α : Type} {Q : Rep α} {G : Hp} {es : List NE} {cs : List Value} {x : List (List α)} (h : NL Q G es cs x) : x.length ≤ 9223372036854775807 := by
  have := h.1.len'; rw [List.length_map, h.2.1] at this; exact this
theorem NL.get {α : Type} {Q : Rep α} {G : Hp} {es : List NE} {cs : List Value} {x : List (List α)} (h : NL Q G es cs x) {i : Int} {y : List α} (hx : lidx x i = some y) :
    ∃ e, es[i.toNat]? = some e ∧ e.n = y.length ∧ OL Q G e.cs y ∧ Elem 1 cs i.toNat [.slice e.a y.length e.k] := by
  obtain ⟨h3, h4, h5⟩ := lidx_some hx
  have hlt : i.toNat < es.length := by rw [h.2.1]; omega
  have he : es[i.toNat]? = some es[i.toNat] := List.getElem?_eq_getElem hlt
  obtain ⟨hn, ho⟩ := h.2.2 _ _ _ he h5
  refine ⟨es[i.toNat], he, hn, ho, ?_⟩
  obtain ⟨c, hc1, hc2⟩ := h.1.get (i := i) (x := es[i.toNat].h) (by
    unfold lidx
    rw [if_pos h3, List.getElem?_map, he]; rfl)
  have : c = [.slice es[i.toNat].a es[i.toNat].n es[i.toNat].k] := hc2
  rw [this, hn] at hc1
  exact hc1
section
variable {P : Program} {c : Cx} {R : Value → World → Prop} {nt : Nat} {w0 : World} {S0 : List Nat} {df : List Deferred} {ρ ρ' : Env} {Fs Fs' Fin B : List Hp} {bl bl' : Blks} {sl sl' : List OwnS}
  {K K' : Act → World → Prop} {k : List Item} {ty : TypeId} {α : Type} {G : Hp}
theorem QOp.inN (q : Nat) {T : TypeId} {m : Nat} {es : List NE} {i : Nat} {e : NE} {n : Nat} {op : Op} {v : Value} (hs : sl[q]? = some (.g (packG T m es))) (he : es[i]? = some e) (hn : e.n = n)
    (h : QOp P ρ Fs bl [.s (.slice e.a n e.k) T m n e.cs] op ty v) : QOp P ρ Fs bl sl op ty v := fun nt df a w hf hm => by
  subst hn
  refine h nt df a w hf ⟨hm.fs, hm.own, fun s hs' => ?_⟩
  rw [List.mem_singleton.1 hs']
  exact (hm.slh _ (List.mem_of_getElem? hs)).2 e (List.mem_of_getElem? he)
theorem nil_s (T : TypeId) (m : Nat) : (NE.nil.s T m).blocks = [] := rfl
theorem nil_holds (w : World) (T : TypeId) (m : Nat) : (NE.nil.s T m).holds w := World.ownsRow_nil w 0 T m
theorem nblks_set (T : TypeId) (m : Nat) : ∀ (es : List NE) (i : Nat) (e e' : NE), es[i]? = some e → ((nblks T m (es.set i e')) ++ (e.s T m).blocks).Perm ((e'.s T m).blocks ++ nblks T m es)
  | [], i, e, e', h => by simp at h
  | x :: es, 0, e, e', h => by
    simp at h; subst h
    simp only [List.set_cons_zero, nblks, List.flatMap_cons]
    rw [List.append_assoc]
    exact List.Perm.append_left _ List.perm_append_comm
  | x :: es, i + 1, e, e', h => by
    have ih := nblks_set T m es i e e' (by simpa using h)
    simp only [List.set_cons_succ, nblks, List.flatMap_cons] at ih ⊢
    rw [List.append_assoc]
    exact (ih.append_left _).trans (List.perm_append_comm_assoc _ _ _)
theorem Cov.takeN (q : Nat) {T : TypeId} {m : Nat} {es : List NE} {i : Nat} {e : NE} {n : Nat} (hs : sl[q]? = some (.g (packG T m es))) (he : es[i]? = some e) (hn : e.n = n)
    (h : Cov nt w0 S0 df ρ Fs bl (.s (.slice e.a n e.k) T m n e.cs :: sl.set q (.g (packG T m (es.set i NE.nil)))) K) : Cov nt w0 S0 df ρ Fs bl sl K := fun aa w hf hi => by
  subst hn
  have hh : (packG T m es).holds w := hi.mem.slh _ (List.mem_of_getElem? hs)
  have hp := nblks_set T m es i e NE.nil he
  rw [nil_s, List.nil_append] at hp
  have hnd := hp.nodup_iff.2 hh.1
  have hnd2 := List.nodup_append.1 hnd
  have hb1 : (packG T m es).blks = nblks T m es := if_pos hh.1
  have hb2 : (packG T m (es.set i NE.nil)).blks = nblks T m (es.set i NE.nil) := if_pos hnd2.1
  have hp1 : (blks bl sl).Perm ((packG T m es).blks ++ blks bl (sl.eraseIdx q)) := by
    have h1 := ((perm_erase sl q _ hs).flatMap_right OwnS.blocks).append_left (bl.map (·.1))
    refine h1.trans ?_
    simp only [List.flatMap_cons, blks]
    exact List.perm_append_comm_assoc _ _ _
  have hp2 : (blks bl (.s (.slice e.a e.n e.k) T m e.n e.cs :: sl.set q (.g (packG T m (es.set i NE.nil))))).Perm (blks bl sl) := by
    refine List.Perm.trans ?_ hp1.symm
    simp only [blks, List.flatMap_cons]
    have h1 := (set_perm_flat OwnS.blocks sl q _ (.g (packG T m (es.set i NE.nil))) hs).append_left ((e.s T m).blocks)
    have h2 : ((e.s T m).blocks ++ (OwnS.blocks (.g (packG T m (es.set i NE.nil))) ++ (sl.eraseIdx q).flatMap OwnS.blocks)).Perm ((packG T m es).blks ++ (sl.eraseIdx q).flatMap OwnS.blocks) := by
      rw [← List.append_assoc]
      refine List.Perm.append_right _ ?_
      show ((e.s T m).blocks ++ (packG T m (es.set i NE.nil)).blks).Perm _
      rw [hb1, hb2]
      exact List.perm_append_comm.trans hp
    exact ((h1.trans h2).append_left _).trans (List.perm_append_comm_assoc _ _ _)
  refine h aa w hf (hi.change [] (by simp) (Keep.refl w []) (fun G hG => .inl hG) hi.mem.own (fun s hs' => ?_) (hp2.nodup_iff.2 hi.nodup) (fun b hb => .inl (hp2.mem_iff.1 hb)))
  rcases List.mem_cons.1 hs' with rfl | hs'
  · exact hh.2 e (List.mem_of_getElem? he)
  · obtain ⟨j, hj, rfl⟩ := List.getElem_of_mem hs'
    rw [List.getElem_set]
    split
    · refine ⟨hnd2.1, fun x hx => ?_⟩
      rcases List.mem_or_eq_of_mem_set hx with hx | rfl
      · exact hh.2 x hx
      · exact nil_holds w T m
    · exact hi.mem.slh _ (List.getElem_mem (by simpa using hj))
theorem Cov.putN (q : Nat) {T : TypeId} {m : Nat} {es : List NE} {i : Nat} {a : Option Addr} {n kk : Nat} {cs : List Value} {s2 : List OwnS} (hsl : sl = .s (.slice a n kk) T m n cs :: s2) (hs : s2[q]? = some (.g (packG T m es))) (he : es[i]? = some NE.nil)
    (h : Cov nt w0 S0 df ρ Fs bl (s2.set q (.g (packG T m (es.set i ⟨a, n, kk, cs⟩)))) K) : Cov nt w0 S0 df ρ Fs bl sl K := fun aa w hf hi => by
  subst hsl
  have hh : (packG T m es).holds w := hi.mem.slh _ (List.mem_cons_of_mem _ (List.mem_of_getElem? hs))
  have ho : (OwnS.s (.slice a n kk) T m n cs).holds w := hi.mem.slh _ List.mem_cons_self
  have hp := nblks_set T m es i NE.nil ⟨a, n, kk, cs⟩ he
  rw [nil_s, List.append_nil] at hp
  have hb1 : (packG T m es).blks = nblks T m es := if_pos hh.1
  have hq : (blks bl (.s (.slice a n kk) T m n cs :: s2)).Perm (nblks T m (es.set i ⟨a, n, kk, cs⟩) ++ blks bl (s2.eraseIdx q)) := by
    simp only [blks, List.flatMap_cons]
    have h1 := ((perm_erase s2 q _ hs).flatMap_right OwnS.blocks).append_left ((OwnS.s (.slice a n kk) T m n cs).blocks)
    simp only [List.flatMap_cons] at h1
    rw [← List.append_assoc (OwnS.blocks _) (OwnS.blocks (.g (packG T m es)))] at h1
    have h2 : ((OwnS.s (.slice a n kk) T m n cs).blocks ++ OwnS.blocks (.g (packG T m es))).Perm (nblks T m (es.set i ⟨a, n, kk, cs⟩)) := by
      show (_ ++ (packG T m es).blks).Perm _
      rw [hb1]; exact hp.symm
    exact ((h1.trans (h2.append_right _)).append_left _).trans (List.perm_append_comm_assoc _ _ _)
  have hnd := hq.nodup_iff.1 hi.nodup
  have hnd1 := (List.nodup_append.1 hnd).1
  have hb2 : (packG T m (es.set i ⟨a, n, kk, cs⟩)).blks = nblks T m (es.set i ⟨a, n, kk, cs⟩) := if_pos hnd1
  have hp2 : (blks bl (s2.set q (.g (packG T m (es.set i ⟨a, n, kk, cs⟩))))).Perm (blks bl (.s (.slice a n kk) T m n cs :: s2)) := by
    refine List.Perm.trans ?_ hq.symm
    simp only [blks]
    have h1 := (set_perm_flat OwnS.blocks s2 q _ (.g (packG T m (es.set i ⟨a, n, kk, cs⟩))) hs)
    have h2 : OwnS.blocks (.g (packG T m (es.set i ⟨a, n, kk, cs⟩))) = nblks T m (es.set i ⟨a, n, kk, cs⟩) := hb2
    rw [h2] at h1
    exact (h1.append_left _).trans (List.perm_append_comm_assoc _ _ _)
  refine h aa w hf (hi.change [] (by simp) (Keep.refl w []) (fun G hG => .inl hG) hi.mem.own (fun s hs' => ?_) (hp2.nodup_iff.2 hi.nodup) (fun b hb => .inl (hp2.mem_iff.1 hb)))
  obtain ⟨j, hj, rfl⟩ := List.getElem_of_mem hs'
  rw [List.getElem_set]
  split
  · refine ⟨hnd1, fun x hx => ?_⟩
    rcases List.mem_or_eq_of_mem_set hx with hx | rfl
    · exact hh.2 x hx
    · exact ho
  · exact hi.mem.slh _ (List.mem_cons_of_mem _ (List.getElem_mem (by simpa using hj)))
theorem nblks_nil (T : TypeId) (m : Nat) : ∀ n, nblks T m (List.replicate n NE.nil) = []
  | 0 => rfl
  | n + 1 => by
    have := nblks_nil T m n
    unfold nblks at this ⊢
    rw [List.replicate_succ, List.flatMap_cons, nil_s, List.nil_append]; exact this
theorem Cov.pack0 (T : TypeId) (m n : Nat) (h : Cov nt w0 S0 df ρ Fs bl (.g (packG T m (List.replicate n NE.nil)) :: sl) K) : Cov nt w0 S0 df ρ Fs bl sl K := fun aa w hf hi => by
  have hb0 := nblks_nil T m n
  have hb : blks bl (.g (packG T m (List.replicate n NE.nil)) :: sl) = blks bl sl := by
    have : (packG T m (List.replicate n NE.nil)).blks = [] := by show (if _ then _ else _) = _; rw [hb0]; simp
    simp only [blks, List.flatMap_cons, OwnS.blocks, this, List.nil_append]
  refine h aa w hf (hi.change [] (by simp) (Keep.refl w []) (fun G hG => .inl hG) hi.mem.own (fun s hs => ?_) (by rw [hb]; exact hi.nodup) (fun b hx => .inl (by rwa [hb] at hx)))
  rcases List.mem_cons.1 hs with rfl | hs
  · refine ⟨by rw [hb0]; simp, fun e he => ?_⟩
    rw [(List.mem_replicate.1 he).2]; exact nil_holds w T m
  · exact hi.mem.slh s hs
theorem Cov.makeN {Q : Rep α} (T : TypeId) (m : Nat) {d : Nat} {t el : TypeId} {x y : Operand} {n : Int} {agg : Bool} {bytes : Nat} {l : List (List α)} (hs : Stp P K' ⟨some d, .makeSlice t x y, ty, none⟩ K) (ht : slOf P t = some el) (hel : TyI P el agg 1 bytes [.slice none 0 0])
    (hx : ev ρ x = some (.int .i64 n)) (hy : ev ρ y = some (.int .i64 n)) (hl : lmk n ([] : List α) = some l) (hby : Nat.ble bytes 8388608 = true) (hd : Nat.blt d nt = true)
    (hk : ∀ b es cs, w0.heap.size ≤ b → NL Q G es cs l → Cov nt w0 S0 df ((d, .slice (some ⟨b, 0, none⟩) l.length l.length) :: ρ) Fs bl (.s (.slice (some ⟨b, 0, none⟩) l.length l.length) el 1 l.length cs :: .g (packG T m es) :: sl) K) : Cov nt w0 S0 df ρ Fs bl sl K' := by
  obtain ⟨h0, h1, rfl⟩ := lmk_some hl
  refine Cov.pack0 T m n.toNat ?_
  refine Cov.makeR (G := G) (Q := Rep.hdr) (zx := (none, 0, 0)) (l := List.replicate n.toNat (none, 0, 0)) hs ht hel rfl rfl rfl rfl hx hy ?_ hby hd fun b cs hb ho => ?_
  · unfold lmk at hl ⊢
    split at hl
    · rename_i hh; rw [if_pos hh]
    · cases hl
  · have hk' := hk b (List.replicate n.toNat NE.nil) cs hb ⟨by rw [List.map_replicate]; exact ho, by simp, fun i e z h1 h2 => by
      rw [List.getElem?_replicate] at h1 h2
      split at h1
      · rename_i hh; rw [if_pos hh] at h2; cases h1; cases h2; exact ⟨rfl, OL.nil⟩
      · cases h1⟩
    simpa using hk'
theorem NL.set {Q : Rep α} {es : List NE} {cs cs' : List Value} {x x' : List (List α)} {i : Int} {y : List α} {e : NE} (h : NL Q G es cs x) (hl : lupd x i y = some x') (hn : e.n = y.length) (ho : OL Q G e.cs y) (hc : OL Rep.hdr G cs' ((es.map NE.h).set i.toNat e.h)) : NL Q G (es.set i.toNat e) cs' x' := by
  obtain ⟨hi0, hil, rfl⟩ := lupd_some hl
  refine ⟨by rw [List.map_set]; exact hc, by simp [h.2.1], fun j e' y' h1 h2 => ?_⟩
  rw [List.getElem?_set] at h1 h2
  by_cases hij : i.toNat = j
  · subst hij
    have := h.2.1
    rw [if_pos rfl, if_pos (by omega)] at h1
    rw [if_pos rfl, if_pos (by omega)] at h2
    cases h1; cases h2
    exact ⟨hn, ho⟩
  · rw [if_neg hij] at h1 h2
    exact h.2.2 j e' y' h1 h2
theorem NL.hole {es : List NE} {i : Nat} {e : NE} (he : es[i]? = some e) : (es.set i NE.nil)[i]? = some NE.nil := by
  rw [List.getElem?_set, if_pos rfl, if_pos (List.getElem?_eq_some_iff.1 he).1]
theorem Cov.storeN (q1 q2 : Nat) {Q : Rep α} {oa : Option Addr} {om T0 T m : Nat} {x x' : List (List α)} {es : List NE} {cs ics : List Value} {i : Int} {y : List α} {a : Option Addr} {kk : Nat} {t : TypeId} {px u : Operand} {p : Value} {agg : Bool} {bytes : Nat} {z : List Value} {s2 : List OwnS} {e : NE} (hs : Stp P K' ⟨none, .store t px u, ty, none⟩ K)
    (hsl : sl = .s (.slice a y.length kk) T m y.length ics :: s2) (h1 : s2[q1]? = some (.s (.slice oa x.length om) T0 1 x.length cs)) (h2 : s2[q2]? = some (.g (packG T m (es.set i.toNat NE.nil)))) (hN : NL Q G es cs x) (he : es[i.toNat]? = some e) (ho : OL Q G ics y) (hl : lupd x i y = some x')
    (hx : ev ρ px = some p) (hp : PtrO p oa x.length om i.toNat 1 0) (hu : ev ρ u = some (.slice a y.length kk)) (ht : TyI P t agg 1 bytes z) (hq : (q1 == q2) = false)
    (hk : ∀ es' cs', x'.length = x.length → NL Q G es' cs' x' → Cov nt w0 S0 df ρ Fs bl ((s2.set q1 (.s (.slice oa x'.length om) T0 1 x'.length cs')).set q2 (.g (packG T m es'))) K) : Cov nt w0 S0 df ρ Fs bl sl K' := by
  refine Cov.putN q2 hsl h2 (NL.hole he) ?_
  have hq' : q1 ≠ q2 := by simpa using hq
  have e1 : x.length = (es.map NE.h).length := by rw [List.length_map, hN.2.1]
  have hlen : x'.length = x.length := by obtain ⟨_, _, rfl⟩ := lupd_some hl; simp
  obtain ⟨hi0, hil, _⟩ := lupd_some hl
  have hilt : i.toNat < es.length := by have := hN.2.1; omega
  have hel : Elem 1 cs i.toNat [.slice e.a e.n e.k] := by
    obtain ⟨c, hc1, hc2⟩ := hN.1.get (i := i) (x := e.h) (by
      unfold lidx
      rw [if_pos hi0, List.getElem?_map, he]; rfl)
    have : c = [.slice e.a e.n e.k] := hc2
    rwa [this] at hc1
  refine Cov.storeR q1 0 (Q := Rep.hdr) (y := (a, y.length, kk)) (l := es.map NE.h) (l' := (es.map NE.h).set i.toNat (a, y.length, kk)) (sz := 1) hs (by rw [List.getElem?_set_ne (Ne.symm hq'), h1, e1]) rfl hN.1 ?_ hx (by rw [← e1]; exact hp) hu ht hel ?_ rfl rfl fun cs' hll ho' => ?_
  · unfold lupd
    rw [if_pos ⟨hi0, by rw [← e1]; exact hil⟩]
  · show _ = [_]
    simp [cellsL, Value.cells]
  · have hN' : NL Q G (es.set i.toNat ⟨a, y.length, kk, ics⟩) cs' x' := hN.set hl rfl ho (by simpa [NE.h] using ho')
    have hk' := hk _ cs' hlen hN'
    have e2 : ((es.map NE.h).set i.toNat (a, y.length, kk)).length = x'.length := by rw [List.length_set, ← e1, hlen]
    rw [e2]
    rw [List.set_set] at *
    rw [List.set_comm _ _ hq']  at hk'
    exact hk'
theorem Cov.backN (q1 q : Nat) {Q : Rep α} {oa : Option Addr} {om T0 T m : Nat} {x x' : List (List α)} {es : List NE} {cs ics : List Value} {i : Int} {y : List α} {s2 : List OwnS} {e : NE} (hsl : sl = .s (.slice e.a y.length e.k) T m y.length ics :: s2) (h1 : s2[q1]? = some (.s (.slice oa x.length om) T0 1 x.length cs)) (h2 : s2[q]? = some (.g (packG T m (es.set i.toNat NE.nil)))) (hN : NL Q G es cs x) (he : es[i.toNat]? = some e) (hn : y.length = e.n) (ho : OL Q G ics y) (hl : lupd x i y = some x')
    (hk : ∀ es', x'.length = x.length → NL Q G es' cs x' → Cov nt w0 S0 df ρ Fs bl ((s2.set q1 (.s (.slice oa x'.length om) T0 1 x'.length cs)).set q (.g (packG T m es'))) K) : Cov nt w0 S0 df ρ Fs bl sl K := by
  refine Cov.putN q hsl h2 (NL.hole he) ?_
  have hlen : x'.length = x.length := by obtain ⟨_, _, rfl⟩ := lupd_some hl; simp
  have hN' : NL Q G (es.set i.toNat ⟨e.a, y.length, e.k, ics⟩) cs x' := hN.set hl rfl ho (by
    have : (es.map NE.h).set i.toNat (NE.h ⟨e.a, y.length, e.k, ics⟩) = es.map NE.h := by
      have h3 : (es.map NE.h)[i.toNat]? = some (NE.h ⟨e.a, y.length, e.k, ics⟩) := by rw [List.getElem?_map, he]; simp [NE.h, hn]
      obtain ⟨hlt, h4⟩ := List.getElem?_eq_some_iff.1 h3
      rw [← h4]; exact List.set_getElem_self hlt
    rw [this]; exact hN.1)
  have hk' := hk _ hlen hN'
  have hs : s2.set q1 (.s (.slice oa x'.length om) T0 1 x'.length cs) = s2 := by
    obtain ⟨hlt, h4⟩ := List.getElem?_eq_some_iff.1 h1
    rw [hlen, ← h4]; exact List.set_getElem_self hlt
  rw [hs] at hk'
  rw [List.set_set]
  exact hk'
theorem Rd.entry {T m : Nat} {es : List NE} {G' : Hp} (h : Rd (.g (packG T m es)) G') {e : NE} (he : e ∈ es) : Rd (e.s T m) G' := by
  obtain ⟨w, hh, hb⟩ := h
  exact ⟨w, hh.2 e he, fun b hbe => hb b (by
    show b ∈ (if _ then _ else _)
    rw [if_pos hh.1]; exact List.mem_flatMap.2 ⟨e, he, hbe⟩)⟩
theorem SlR.rdN {Q : Rep α} {G' : Hp} {a : Option Addr} {kk T0 T m : Nat} {x : List (List α)} {es : List NE} {cs : List Value} (hN : NL Q G es cs x) (hm : m = Q.sz) (hle : HpLe G G') (h1 : Rd (.s (.slice a x.length kk) T0 1 x.length cs) G') (h2 : Rd (.g (packG T m es)) G') : SlR (Rep.sl Q) G' a kk x := by
  refine SlR.rd (G := G') (T := T0) ?_ rfl (HpLe.refl _) h1
  obtain ⟨⟨hb, xs, rfl, h3, h4⟩, h5, h6⟩ := hN
  rw [List.length_map] at hb
  refine ⟨by omega, xs, rfl, h3, by rw [h4.1, List.length_map, h5], fun i c y hc hy => ?_⟩
  have hlt : i < es.length := by rw [h5]; exact (List.getElem?_eq_some_iff.1 hy).1
  have he : es[i]? = some es[i] := List.getElem?_eq_getElem hlt
  obtain ⟨hn, ho⟩ := h6 i _ y he hy
  have hc' : c = [.slice es[i].a es[i].n es[i].k] := h4.2 i c es[i].h hc (by rw [List.getElem?_map, he]; rfl)
  refine ⟨es[i].a, es[i].k, by rw [hc', hn], ?_⟩
  have hr := h2.entry (List.getElem_mem hlt)
  unfold NE.s at hr
  rw [hn] at hr
  exact SlR.rd ho hm hle hr
theorem Cov.freezeN {Q : Rep α} {a : Option Addr} {kk T0 T m : Nat} {x : List (List α)} {es : List NE} {cs : List Value} {s2 : List OwnS} (hsl : sl = .s (.slice a x.length kk) T0 1 x.length cs :: .g (packG T m es) :: s2) (hN : NL Q G es cs x) (hm : m = Q.sz) (hB : Bd w0 S0 B G)
    (hk : ∀ G', HpLe G G' → Bd w0 S0 B G' → SlR (Rep.sl Q) G' a kk x → Cov nt w0 S0 df ρ (G' :: B) bl s2 K) : Cov nt w0 S0 df ρ (G :: B) bl sl K := fun aa w hf hi => by
  subst hsl
  have hi' : Inv w0 S0 (G :: B) bl ([] ++ ([.s (.slice a x.length kk) T0 1 x.length cs, .g (packG T m es)] ++ s2)) w := hi
  obtain ⟨G', hle, hrd, hi2, hbd, _⟩ := hi'.lendB
  refine Cov.less (Fs' := G' :: B) ?_ (hk G' hle (hbd B hB) (SlR.rdN hN hm hle (hrd _ List.mem_cons_self) (hrd _ (List.mem_cons_of_mem _ List.mem_cons_self)))) aa w hf hi2
  intro F hF
  rcases List.mem_cons.1 hF with rfl | hF
  · exact List.mem_cons_self
  · exact List.mem_cons_of_mem _ (List.mem_cons_of_mem _ hF)
end
end Go.Proofs.YtnfalgmfmiolbaaGreat
end

section
namespace Go.Proofs.YtnfalgmfmiolbaaGreat
open Go.RowKit
set_option linter.unusedVariables false
theorem SlR.cells {α : Type} {Q : Rep α} {G : Hp} {a : Option Addr} {k : Nat} {l : List α} (h : SlR Q G a k l) : ∃ xs : List (List Value), (∀ x ∈ xs, x.length = Q.sz) ∧ RL Q G xs l ∧ (a = none → l = []) ∧
    ∀ w, HpIn G w → ∀ ad, a = some ad → ∀ (j : Nat) u, xs.flatten[j]? = some u → w.cell? (ad.add j) = some u := by
  have hnil : a = none → l = [] := fun e => h.isnil (by simp [e])
  obtain ⟨_, xs, ⟨a', cap, hv, hc, hsz, hcc⟩, hrl⟩ := h
  simp only [Value.slice.injEq] at hv
  obtain ⟨rfl, hlen, rfl⟩ := hv
  refine ⟨xs, hsz, hrl, hnil, fun w hw ad had j u hj => ?_⟩
  have hne : xs ≠ [] := by rintro rfl; simp at hj
  obtain ⟨b, o, hb, hcell⟩ := hcc hne
  rw [had] at hb
  cases hb
  have hfl := flat_len hsz
  have hlt : j < xs.length * Q.sz := by rw [← hfl]; exact (List.getElem?_eq_some_iff.1 hj).1
  have hpos : 0 < Q.sz := by
    rcases Nat.eq_zero_or_pos Q.sz with h | h
    · rw [h] at hlt; omega
    · exact h
  have hq : j / Q.sz < xs.length := Nat.div_lt_of_lt_mul (by rw [Nat.mul_comm]; exact hlt)
  have hm : j % Q.sz < Q.sz := Nat.mod_lt _ hpos
  have hxq : xs[j / Q.sz]? = some xs[j / Q.sz] := List.getElem?_eq_getElem hq
  have hl2 := hsz _ (List.getElem_mem hq)
  have hg := get_flatten xs (j / Q.sz) _ (j % Q.sz) ((xs[j / Q.sz])[j % Q.sz]'(by omega)) hsz hxq (List.getElem?_eq_getElem _)
  have hdm : j / Q.sz * Q.sz + j % Q.sz = j := by rw [Nat.mul_comm]; exact Nat.div_add_mod j Q.sz
  rw [hdm] at hg
  rw [hg] at hj
  have := hcell (j / Q.sz) _ hxq (j % Q.sz) u (by rw [List.getElem?_eq_getElem (by omega)]; exact hj)
  rw [Nat.add_assoc, hdm] at this
  rw [addr_add]
  exact hw.cell this
section
variable {P : Program} {c : Cx} {R : Value → World → Prop} {nt : Nat} {w0 : World} {S0 : List Nat} {df : List Deferred} {ρ ρ' : Env} {Fs Fs' Fin B : List Hp} {bl bl' : Blks} {sl sl' : List OwnS}
  {K K' : Act → World → Prop} {k : List Item} {ty : TypeId} {α : Type} {G : Hp}
end
end Go.Proofs.YtnfalgmfmiolbaaGreat
end

section
namespace Go.Proofs.YtnfalgmfmiolbaaGreat
open Go.RowKit
set_option linter.unusedVariables false
theorem run_append_two {P : Program} {ty : TypeId} {w : World} {t e : TypeId} {agg : Bool} {sz bytes : Nat} {z : List Value} (ht : slOf P t = some e) (hel : TyI P e agg sz bytes z) (hz : z.length = sz) (hsz : 0 < sz) {v : Value} {n : Nat} {xs : List Value} (hown : w.ownsRow 0 e sz v n xs)
    {a : Option Addr} {m c : Nat} {news : List Value} (ha : a = none → m = 0) (hl : news.length = m * sz) (hnews : ∀ ad, a = some ad → ∀ (j : Nat) u, news[j]? = some u → w.cell? (ad.add j) = some u) (h1 : ∀ u ∈ news, u.oneCell' = true)
    (hb : n + m ≤ 16777216) (hby : bytes ≤ 8388608) :
    ∃ a' cap' w', (Builtin.append_ #[t, t] ty #[v, .slice a m c]).run P w = .ok (.slice a' (n + m) cap') w' ∧ w'.ownsRow 0 e sz (.slice a' (n + m) cap') (n + m) (xs ++ news) ∧
      ((v = .slice a' n cap' ∧ Keep w v.ownBlock.toList w') ∨ (Keep w [] w' ∧ ∃ b, (Value.slice a' (n + m) cap').ownBlock = some b ∧ w.heap.size ≤ b)) := by
  have hu := slOf_spec ht
  obtain ⟨i, zv, hi, hzi, hs1, hs2, hzc⟩ := hel.info
  have h63 : n + m ≤ maxLen := by simp only [maxLen]; omega
  have hbytes : (n + m) * bytes ≤ 140737488355328 := Nat.le_trans (Nat.mul_le_mul hb hby) (by decide)
  have hzs : zv.cells.size = sz := by rw [hzc]; simpa using hz
  have form : ∀ {v' : Value} {w' : World} {base : Nat} {cs : List Value}, w'.ownsRow base e sz v' (n + m) cs → ∃ a' cap', v' = .slice a' (n + m) cap' := fun h => by
    rcases h.2 with ⟨rfl, h0⟩ | ⟨g, cap, cur, rfl, _⟩
    · exact ⟨none, 0, by rw [h0]⟩
    · exact ⟨_, _, rfl⟩
  have fresh : ∀ {v' : Value} {w' : World} {cs : List Value}, w'.ownsRow w.heap.size e sz v' (n + m) cs → 0 < n + m → ∃ b, v'.ownBlock = some b ∧ w.heap.size ≤ b := fun h hpos => by
    rcases h.2 with ⟨rfl, h0⟩ | ⟨g, cap, cur, rfl, hge, _⟩
    · omega
    · exact ⟨g, rfl, hge⟩
  cases a with
  | none =>
    have hm := ha rfl
    subst hm
    have hn0 : news = [] := List.eq_nil_of_length_eq_zero (by simpa using hl)
    subst hn0
    simp only [Nat.add_zero, List.append_nil]
    rcases hown.2 with ⟨rfl, hn⟩ | ⟨g, cap, cur, rfl, _, _, hnc, _⟩
    · subst hn
      refine ⟨none, 0, w, ?_, hown, .inl ⟨rfl, Keep.refl _ _⟩⟩
      simp [Builtin.append_, run_underlying hu, sizeOf, typeInfo, hi, Builtin.lenOf, Builtin.firstCells]
    · refine ⟨_, cap, w, ?_, hown, .inl ⟨rfl, Keep.refl _ _⟩⟩
      simp [Builtin.append_, run_underlying hu, sizeOf, typeInfo, hi, Builtin.lenOf, Builtin.firstCells, hnc, storeCells]
  | some ad =>
    have hnews' := hnews ad rfl
    rcases hown.2 with ⟨rfl, hn⟩ | ⟨g, cap, cur, rfl, _, hg, hnc, hcm, hcs, htake⟩
    · subst hn
      have hx : xs = [] := List.eq_nil_of_length_eq_zero (by simpa using hown.1)
      subst hx
      by_cases hm0 : m = 0
      · subst hm0
        have hn0 : news = [] := List.eq_nil_of_length_eq_zero (by simpa using hl)
        subst hn0
        refine ⟨none, 0, w, ?_, by simpa using hown, .inl ⟨rfl, Keep.refl _ _⟩⟩
        simp [Builtin.append_, run_underlying hu, sizeOf, typeInfo, hi, Builtin.lenOf, Builtin.firstCells, loadCells, loadCellsFrom]
      · obtain ⟨v', w', hr, ho, hgr, _⟩ := run_append_own (P := P) w w.heap.size t ty e i zv sz bytes hu hi hzi hs1 hs2 hzs hsz (.slice none 0 0) 0 [] (World.ownsRow_nil w _ e sz) ad m c news hl hnews' h1 h63 hbytes (Nat.le_refl _)
        obtain ⟨a', cap', rfl⟩ := form ho
        exact ⟨a', cap', w', hr, ownsRow_zero ho, .inr ⟨Keep.of_grown hgr, fresh ho (by omega)⟩⟩
    · by_cases hroom : n + m ≤ cap
      · have hfit : n * sz + news.length ≤ cur.size := by rw [hl, hcs, ← Nat.add_mul]; exact Nat.mul_le_mul_right _ hroom
        subst hs1
        have hr := run_append_room (P := P) w t ty e i hu hi g n cap cur hg ad m c news hl hnews' h1 hroom hfit
        have hlen : (xs ++ news).length = (n + m) * i.size := by rw [List.length_append, hown.1, hl, Nat.add_mul]
        refine ⟨_, cap, _, hr, ⟨hlen, .inr ⟨g, cap, _, rfl, Nat.zero_le _, setRow_heap w g cur _ e _ hg, hroom, hcm, ?_, ?_⟩⟩, .inl ⟨rfl, ⟨rfl, rfl, rfl, by simp [World.setRow], fun b _ hD => setRow_other w g b _ (by simpa [Value.ownBlock] using hD)⟩⟩⟩
        · simp only [List.size_toArray, List.length_append, List.length_take, List.length_drop, Array.length_toList]
          omega
        · rw [htake, ← hlen]
          exact List.take_left
      · have holds : ∀ (j : Nat) u, xs[j]? = some u → w.cell? ((⟨g, 0, none⟩ : Addr).add j) = some u := hown.cells (g := g) rfl
        obtain ⟨v', w', hr, ho, hgr⟩ := run_append_arg_grows (P := P) w t ty e i zv sz bytes hu hi hzi hs1 hs2 hzs hsz ⟨g, 0, none⟩ n cap xs hown.1 holds ad m c news hl hnews' (by omega) h63 hbytes
        obtain ⟨a', cap', rfl⟩ := form ho
        exact ⟨a', cap', w', hr, ownsRow_zero ho, .inr ⟨Keep.of_grown hgr, fresh ho (by omega)⟩⟩
def restG (old new : OwnS) : Guest where
  blks := if old.blocks = new.blocks then [] else (if old.blocks.Nodup then old.blocks else [])
  nodup := by
    split
    · exact List.nodup_nil
    · split
      · assumption
      · exact List.nodup_nil
  holds w := old.blocks.Nodup ∧ (old.blocks = new.blocks ∨ old.holds w)
  lt w h b hb := by
    split at hb
    · simp at hb
    · rename_i hne
      rw [if_pos h.1] at hb
      rcases h.2 with h2 | h2
      · exact absurd h2 hne
      · exact OwnS.lt h2 b hb
  same w w' h e := by
    refine ⟨h.1, ?_⟩
    rcases h.2 with h2 | h2
    · exact .inl h2
    · by_cases hq : old.blocks = new.blocks
      · exact .inl hq
      · exact .inr (OwnS.same h2 fun b hb => e b (by rw [if_neg hq, if_pos h.1]; exact hb))
section
variable {P : Program} {c : Cx} {R : Value → World → Prop} {nt : Nat} {w0 : World} {S0 : List Nat} {df : List Deferred} {ρ ρ' : Env} {Fs Fs' Fin B : List Hp} {bl bl' : Blks} {sl sl' : List OwnS}
  {K K' : Act → World → Prop} {k : List Item} {ty : TypeId} {α : Type} {G : Hp}
theorem Cov.openB {sB s2 : List OwnS} (hsl : sl = sB ++ s2) (hB : Bd w0 S0 B G)
    (hk : ∀ G', HpLe G G' → Bd w0 S0 B G' → (∀ s ∈ sB, Rd s G') → (∀ (G2 : Hp) (ρ' : Env) (df' : List Deferred) (bo : Blks) (so : List OwnS) (K' : Act → World → Prop), HpLe G' G2 → Cov nt w0 S0 df' ρ' (G :: B) bo (sB ++ so) K' → Cov nt w0 S0 df' ρ' (G2 :: B) bo so K') →
      Cov nt w0 S0 df ρ (G' :: B) bl s2 K) : Cov nt w0 S0 df ρ (G :: B) bl sl K := fun a w hf hi => by
  subst hsl
  have hi' : Inv w0 S0 (G :: B) bl ([] ++ (sB ++ s2)) w := hi
  obtain ⟨G', hle, hrd, hi2, hbd, _⟩ := hi'.lendB
  have hnd0 : (sB.flatMap OwnS.blocks).Nodup := by
    have h1 := hi.nodup
    simp only [blks, List.flatMap_append] at h1
    exact (List.nodup_append.1 (List.nodup_append.1 h1).2.1).1
  have hmine : ∀ b ∈ sB.flatMap OwnS.blocks, b ∈ blks bl (sB ++ s2) := fun b hb => by
    simp only [blks, List.flatMap_append, List.mem_append]; exact .inr (.inl hb)
  have hsome : ∀ b ∈ sB.flatMap OwnS.blocks, ∃ o, G' b = some o := fun b hb => by
    obtain ⟨s, hs, hb⟩ := List.mem_flatMap.1 hb
    obtain ⟨w', h1, h2⟩ := hrd s hs
    rw [h2 b hb]
    exact ⟨_, Array.getElem?_eq_getElem (OwnS.lt h1 b hb)⟩
  refine Cov.less (Fs' := G' :: B) (fun F hF => by rcases List.mem_cons.1 hF with rfl | hF; exact List.mem_cons_self; exact List.mem_cons_of_mem _ (List.mem_cons_of_mem _ hF)) (hk G' hle (hbd B hB) hrd fun G2 ρ' df' bo so K' hle2 hc a' w' hf' hinv' => ?_) a w hf hi2
  refine hc a' w' hf' ?_
  have hG2 := hinv'.mem.fs G2 List.mem_cons_self
  have hin : HpIn G' w' := fun b o hb => hG2 b o (hle2 b o hb)
  have hblk : ∀ b, b ∈ blks bo (sB ++ so) ↔ b ∈ sB.flatMap OwnS.blocks ∨ b ∈ blks bo so := fun b => by
    simp only [blks, List.flatMap_append, List.mem_append]
    constructor
    · rintro (h | h | h) <;> simp [h]
    · rintro (h | h | h) <;> simp [h]
  have hperm : (blks bo (sB ++ so)).Perm (sB.flatMap OwnS.blocks ++ blks bo so) := by
    simp only [blks, List.flatMap_append]
    exact List.perm_append_comm_assoc _ _ _
  refine ⟨⟨fun F hF => ?_, hinv'.mem.own, fun s hs => ?_⟩, hinv'.keep, ?_, fun b hb => ?_, fun b hb F hF => ?_⟩
  · rcases List.mem_cons.1 hF with rfl | hF
    · exact fun b o hb => hin b o (hle b o hb)
    · exact hinv'.mem.fs F (List.mem_cons_of_mem _ hF)
  · rcases List.mem_append.1 hs with h | h
    · obtain ⟨w1, h1, h2⟩ := hrd s h
      refine OwnS.same h1 fun b hb => ?_
      obtain ⟨o, ho⟩ := hsome b (List.mem_flatMap.2 ⟨s, h, hb⟩)
      rw [hin b o ho, ← ho, h2 b hb]
    · exact hinv'.mem.slh s h
  · rw [hperm.nodup_iff, List.nodup_append]
    refine ⟨hnd0, hinv'.nodup, fun x hx y hy e => ?_⟩
    subst e
    obtain ⟨o, ho⟩ := hsome x hx
    have := hinv'.apart x hy G2 List.mem_cons_self
    rw [hle2 x o ho] at this
    cases this
  · rcases (hblk b).1 hb with h | h
    · exact hi.mine b (hmine b h)
    · exact hinv'.mine b h
  · rcases (hblk b).1 hb with h | h
    · exact hi.apart b (hmine b h) F hF
    · rcases List.mem_cons.1 hF with rfl | hF
      · cases hg : F b with
        | none => rfl
        | some o =>
          have := hinv'.apart b h G2 List.mem_cons_self
          rw [hle2 b o (hle b o hg)] at this
          cases this
      · exact hinv'.apart b h F (List.mem_cons_of_mem _ hF)
theorem Cov.appA {Q : Rep α} {d : Nat} {t e : TypeId} {s x : Operand} {a a2 : Option Addr} {m m2 n : Nat} {l l2 l' : List α} {cs : List Value} {agg : Bool} {sz bytes : Nat} {z : List Value} {s2 : List OwnS}
    (hs : Stp P K' ⟨some d, .call ⟨.builtin .append, #[s, x], #[t, t]⟩, ty, none⟩ K) (ht : slOf P t = some e) (hel : TyI P e agg sz bytes z) (hz : z.length = sz) (hsz : Nat.blt 0 sz = true) (hby : Nat.ble bytes 8388608 = true)
    (hsl : sl = .s (.slice a l.length m) e sz l.length cs :: s2) (hn : sz = Q.sz) (ho : OL Q G cs l) (he : ev ρ s = some (.slice a l.length m)) (hx : ev ρ x = some (.slice a2 n m2)) (h2 : SlR Q G a2 m2 l2) (hln : n = l2.length) (hG : G ∈ Fs) (hl : lapp l l2 = some l') (hd : Nat.blt d nt = true)
    (hk : ∀ a' m' cs', OL Q G cs' l' → (∀ (ρ' : Env) (bl' : Blks) (so : List OwnS) (Fs' : List Hp) (K2 : Act → World → Prop), Cov nt w0 S0 df ρ' Fs' bl' (.s (.slice a l.length m) e sz l.length cs :: so) K2 →
        Cov nt w0 S0 df ρ' Fs' bl' (.s (.slice a' l'.length m') e sz l'.length cs' :: .g (restG (.s (.slice a l.length m) e sz l.length cs) (.s (.slice a' l'.length m') e sz l'.length cs')) :: so) K2) →
      Cov nt w0 S0 df ((d, .slice a' l'.length m') :: ρ) Fs bl (.s (.slice a' l'.length m') e sz l'.length cs' :: .g (restG (.s (.slice a l.length m) e sz l.length cs) (.s (.slice a' l'.length m') e sz l'.length cs')) :: s2) K) : Cov nt w0 S0 df ρ Fs bl sl K' := fun aa w hfi hinv => by
  subst hn hln hsl
  obtain ⟨hb, rfl⟩ := lapp_some hl
  obtain ⟨ys, hy1, hy2, hyn, hyc⟩ := h2.cells
  have hown : w.ownsRow 0 e Q.sz (.slice a l.length m) l.length cs := hinv.mem.slh _ List.mem_cons_self
  have hcl := ho.clen
  have e2 : ys.flatten.length = l2.length * Q.sz := by rw [flat_len hy1, hy2.1]
  have hpos : 0 < Q.sz := by simpa [Nat.blt_eq] using hsz
  have hone : ∀ u ∈ ys.flatten, u.oneCell' = true := fun u hu' => by
    obtain ⟨y, hy, huy⟩ := List.mem_flatten.1 hu'
    obtain ⟨j, hj, rfl⟩ := List.getElem_of_mem hy
    exact List.all_eq_true.1 (Q.one (hy2.2 j _ _ (List.getElem?_eq_getElem hj) (List.getElem?_eq_getElem (by rw [← hy2.1]; exact hj)))) u huy
  have hG' := hinv.mem.fs G hG
  obtain ⟨a', cap', w', hr, hw, htwo⟩ := run_append_two (P := P) (ty := ty) (w := w) ht hel hz hpos hown (a := a2) (m := l2.length) (c := m2) (news := ys.flatten) (fun h => by rw [hyn h]; rfl) e2 (fun ad had j u hj => hyc w hG' ad had j u hj) hone hb (by simpa [Nat.ble_eq] using hby)
  have hrun : (execOp aa.eval (⟨some d, .call ⟨.builtin .append, #[s, x], #[t, t]⟩, ty, none⟩ : OpX).oper).run P w = .ok (.value (.slice a' (l.length + l2.length) cap')) w' := by
    refine run_builtin (run_v (s := Builtin.append_ #[t, t] ty (#[s, x].map aa.eval)) ?_)
    rw [show #[s, x].map aa.eval = #[aa.eval s, aa.eval x] from by simp, ev_sound hfi he, ev_sound hfi hx]
    exact hr
  have hOL : OL Q G (cs ++ ys.flatten) (l ++ l2) := by
    obtain ⟨_, xs, rfl, hx1, hx2⟩ := ho
    exact ⟨by simp; omega, xs ++ ys, by simp, fun c hc => by rcases List.mem_append.1 hc with h | h; exact hx1 c h; exact hy1 c h, by simp [hx2.1, hy2.1], fun i c y hc hy => by
      rcases Nat.lt_or_ge i xs.length with h | h
      · rw [List.getElem?_append_left h] at hc
        rw [List.getElem?_append_left (by rw [← hx2.1]; exact h)] at hy
        exact hx2.2 i c y hc hy
      · rw [List.getElem?_append_right h] at hc
        rw [List.getElem?_append_right (by rw [← hx2.1]; exact h), ← hx2.1] at hy
        exact hy2.2 _ c y hc hy⟩
  have e3 : l.length + l2.length = (l ++ l2).length := by simp
  rw [e3] at hrun hw htwo
  have hndo : (OwnS.s (.slice a l.length m) e Q.sz l.length cs).blocks.Nodup := ownBlock_nodup _
  have hlto := OwnS.lt (s := .s (.slice a l.length m) e Q.sz l.length cs) hown
  generalize hov : OwnS.s (.slice a l.length m) e Q.sz l.length cs = old at *
  generalize hnv : OwnS.s (.slice a' (l ++ l2).length cap') e Q.sz (l ++ l2).length (cs ++ ys.flatten) = new at *
  have hnew : new.holds w' := by rw [← hnv]; exact hw
  -- the two ways
  have hq : (old.blocks = new.blocks ∧ a = a' ∧ m = cap' ∧ Keep w old.blocks w') ∨ (old.blocks ≠ new.blocks ∧ Keep w [] w' ∧ ∃ b, new.blocks = [b] ∧ w.heap.size ≤ b) := by
    rcases htwo with ⟨hv, kw⟩ | ⟨kw, b, hb1, hb2⟩
    · simp only [Value.slice.injEq] at hv
      obtain ⟨rfl, _, rfl⟩ := hv
      refine .inl ⟨?_, rfl, rfl, ?_⟩
      · rw [← hov, ← hnv]; cases a <;> rfl
      · rw [← hov]; exact kw
    · have hbn : new.blocks = [b] := by rw [← hnv]; show (Value.ownBlock _).toList = _; rw [hb1]; rfl
      refine .inr ⟨fun h => ?_, kw, b, hbn, hb2⟩
      have := hlto b (by rw [h, hbn]; simp)
      omega
  have hwand : ∀ (ρ' : Env) (bl' : Blks) (so : List OwnS) (Fs' : List Hp) (K2 : Act → World → Prop), Cov nt w0 S0 df ρ' Fs' bl' (old :: so) K2 → Cov nt w0 S0 df ρ' Fs' bl' (new :: .g (restG old new) :: so) K2 := by
    intro ρ' bl' so Fs' K2 hc a2 w2 hf2 hi2
    rcases hq with ⟨hbq, rfl, rfl, _⟩ | ⟨hbq, _⟩
    · have hb : blks bl' (old :: so) = blks bl' (new :: .g (restG old new) :: so) := by
        have : (restG old new).blks = [] := if_pos hbq
        show bl'.map (·.1) ++ (old.blocks ++ so.flatMap OwnS.blocks) = bl'.map (·.1) ++ (new.blocks ++ ((restG old new).blks ++ so.flatMap OwnS.blocks))
        rw [this, hbq]; rfl
      have hh : new.holds w2 := hi2.mem.slh _ List.mem_cons_self
      refine hc a2 w2 hf2 (hi2.change [] (by simp) (Keep.refl _ _) (fun F hF => .inl hF) hi2.mem.own (fun s hs => ?_) (by rw [hb]; exact hi2.nodup) (fun b hb' => .inl (by rwa [hb] at hb')))
      rcases List.mem_cons.1 hs with rfl | hs
      · rw [← hov]; rw [← hnv] at hh
        have hh' : w2.ownsRow 0 e Q.sz (.slice a (l ++ l2).length m) (l ++ l2).length (cs ++ ys.flatten) := hh
        rcases hh'.2 with ⟨hv, h0⟩ | ⟨g, cap, cur, hv, hge, hg, hnc, hcm, hcs, htk⟩
        · simp only [Value.slice.injEq] at hv
          obtain ⟨rfl, h1, rfl⟩ := hv
          have hl0 : l.length = 0 := by simp at h1; simp [h1]
          have hc0 : cs = [] := List.eq_nil_of_length_eq_zero (by rw [hcl, hl0]; simp)
          show w2.ownsRow 0 e Q.sz _ _ _
          rw [hl0, hc0]; exact World.ownsRow_nil w2 0 e Q.sz
        · simp only [Value.slice.injEq] at hv
          obtain ⟨rfl, _, rfl⟩ := hv
          refine ⟨hcl, .inr ⟨g, m, cur, rfl, hge, hg, by simp at hnc; omega, hcm, hcs, ?_⟩⟩
          have h5 : cs = ((cur.toList.take ((l ++ l2).length * Q.sz))).take (l.length * Q.sz) := by rw [htk]; exact (List.take_left' hcl).symm
          rw [List.take_take] at h5
          have h6 : min (l.length * Q.sz) ((l ++ l2).length * Q.sz) = l.length * Q.sz := Nat.min_eq_left (Nat.mul_le_mul_right _ (by simp))
          rw [h6] at h5
          exact h5.symm
      · exact hi2.mem.slh s (List.mem_cons_of_mem _ (List.mem_cons_of_mem _ hs))
    · have hh : (restG old new).holds w2 := hi2.mem.slh _ (List.mem_cons_of_mem _ List.mem_cons_self)
      have hb : (restG old new).blks = old.blocks := by show (if _ then _ else _) = _; rw [if_neg hbq, if_pos hndo]
      have hsub : (blks bl' (old :: so)).Sublist (blks bl' (new :: .g (restG old new) :: so)) := by
        simp only [blks, List.flatMap_cons]
        refine List.Sublist.append (List.Sublist.refl _) ?_
        show (old.blocks ++ _).Sublist (new.blocks ++ ((restG old new).blks ++ _))
        rw [hb]
        exact List.sublist_append_right _ _
      refine hc a2 w2 hf2 (hi2.change [] (by simp) (Keep.refl _ _) (fun F hF => .inl hF) hi2.mem.own (fun s hs => ?_) (hi2.nodup.sublist hsub) (fun b hb' => .inl (hsub.subset hb')))
      rcases List.mem_cons.1 hs with rfl | hs
      · rcases hh.2 with h | h
        · exact absurd h hbq
        · exact h
      · exact hi2.mem.slh s (List.mem_cons_of_mem _ (List.mem_cons_of_mem _ hs))
  refine hs aa w ?_
  unfold Oper.wp
  rw [hrun]
  refine hk a' cap' (cs ++ ys.flatten) hOL (by rw [hnv]; exact hwand) _ _ (hfi.put hd _) ?_
  rw [hnv]
  rcases hq with ⟨hbq, _, _, kw⟩ | ⟨hbq, kw, b, hbn, hbge⟩
  · have h1 := hinv.set_s 0 rfl (s' := new) kw hnew (by rw [← hbq]; exact hndo) (fun b hb => .inl (by rw [hbq]; exact hb))
    have hb : blks bl (new :: .g (restG old new) :: s2) = blks bl ((old :: s2).set 0 new) := by
      have : (restG old new).blks = [] := if_pos hbq
      show bl.map (·.1) ++ (new.blocks ++ ((restG old new).blks ++ s2.flatMap OwnS.blocks)) = bl.map (·.1) ++ (new.blocks ++ s2.flatMap OwnS.blocks)
      rw [this]; rfl
    refine h1.change [] (by simp) (Keep.refl _ _) (fun F hF => .inl hF) h1.mem.own (fun s hs => ?_) (by rw [hb]; exact h1.nodup) (fun b hb' => .inl (by rwa [hb] at hb'))
    rcases List.mem_cons.1 hs with rfl | hs
    · exact hnew
    · rcases List.mem_cons.1 hs with rfl | hs
      · exact ⟨hndo, .inl hbq⟩
      · exact h1.mem.slh s (by simp [hs])
  · have hold : old.holds w := by rw [← hov]; exact hown
    have hb : (restG old new).blks = old.blocks := by show (if _ then _ else _) = _; rw [if_neg hbq, if_pos hndo]
    have hlt : ∀ b ∈ blks bl (old :: s2), b < w.heap.size := fun b hb => blks_lt hinv.mem hb
    have hbl : blks bl (new :: .g (restG old new) :: s2) = bl.map (·.1) ++ ([b] ++ (old.blocks ++ s2.flatMap OwnS.blocks)) := by
      simp only [blks, List.flatMap_cons]
      show _ ++ (new.blocks ++ ((restG old new).blks ++ _)) = _
      rw [hb, hbn]
    have hperm : (blks bl (new :: .g (restG old new) :: s2)).Perm (b :: blks bl (old :: s2)) := by
      rw [hbl]; exact List.perm_append_comm_assoc _ _ _
    refine hinv.change [] (by simp) kw (fun F hF => .inl hF) (fun p hp => ?_) (fun s hs => ?_) ?_ (fun x hx => ?_)
    · rw [kw.block p.1 (own_lt (hinv.mem.own p hp)) (by simp)]; exact hinv.mem.own p hp
    · have hk2 : ∀ {s : OwnS}, s.holds w → s.holds w' := fun {s} h => OwnS.same h fun b hb => kw.block b (OwnS.lt h b hb) (by simp)
      rcases List.mem_cons.1 hs with rfl | hs
      · exact hnew
      · rcases List.mem_cons.1 hs with rfl | hs
        · exact ⟨hndo, .inr (hk2 hold)⟩
        · exact hk2 (hinv.mem.slh s (List.mem_cons_of_mem _ hs))
    · rw [hperm.nodup_iff, List.nodup_cons]
      exact ⟨fun h => by have := hlt b h; omega, hinv.nodup⟩
    · rcases List.mem_cons.1 (hperm.mem_iff.1 hx) with rfl | h
      · exact .inr hbge
      · exact .inl h
end
end Go.Proofs.YtnfalgmfmiolbaaGreat
end

section
namespace Go.Proofs.YtnfalgmfmiolbaaGreat
open Go.RowKit
variable {P : Program} {ρ : Env} {Fs : List Hp} {bl : Blks} {sl : List OwnS} {ty : TypeId}
theorem QOp.shrw {t u : TypeId} {x y : Operand} {k k' : IntKind} {m n : Int} (hx : ev ρ x = some (.int k m)) (hy : ev ρ y = some (.int k' n)) (hn : 0 ≤ n) : QOp P ρ Fs bl sl (.binOp .shr t x y u) ty (.int k (shrI k m n)) :=
  .bin hx hy fun w => by
    have h1 : (eqGuard .shr t x y (.int k m) (.int k' n)).run P w = .ok () w := rfl
    rw [Sem.run_bind, h1]
    simp only [Result.andThen_ok]
    have : Op.shift .shr k m k' n = pure (.int k (shrI k m n)) := by
      unfold Op.shift shrI; rw [if_neg (by omega)]
    simp only [binOp]
    rw [this]
    rfl
theorem QOp.andw {t u : TypeId} {x y : Operand} {k : IntKind} {m n : Int} (hx : ev ρ x = some (.int k m)) (hy : ev ρ y = some (.int k n)) :
    QOp P ρ Fs bl sl (.binOp .and t x y u) ty (.int k (andI k m n)) := .int hx hy fun w => by simp only [binOp, Op.intBits, ne_eq, not_true_eq_false, if_false]; rfl
end Go.Proofs.YtnfalgmfmiolbaaGreat
end

section
namespace Go.Proofs.YtnfalgmfmiolbaaGreat
open Go.RowKit
set_option linter.unusedVariables false
def PartV (a : Option Addr) (sz : Nat) (v : Value) (i len : Nat) : Prop := ∃ a' c', v = .slice a' len c' ∧ len ≤ c' ∧ (len ≠ 0 → ∀ g, a = some ⟨g, 0, none⟩ → a' = some ⟨g, i * sz, none⟩)
theorem PartV.whole {a : Option Addr} {sz n m : Nat} (h : n ≤ m) : PartV a sz (.slice a n m) 0 n := ⟨a, m, rfl, h, fun _ g e => by rw [e]; simp⟩
theorem PartV.sub {a : Option Addr} {sz : Nat} {v : Value} {i len : Nat} (h : PartV a sz v i len) {i' j' : Nat} (h1 : i' ≤ j') (h2 : j' ≤ len) : PartV a sz (subV v i' j' sz) (i + i') (j' - i') := by
  obtain ⟨a', c', rfl, hc, ha⟩ := h
  refine ⟨_, _, rfl, by omega, fun hne g e => ?_⟩
  have := ha (by omega) g e
  subst this
  rw [if_neg (by omega)]
  simp [addr_add, Nat.add_mul]
theorem run_copy_gen {P : Program} (w : World) (dT sT ty elem : TypeId) (sz g o dLen dCap sLen : Nat) (s : Value) (cur : Array Value) (t : TypeId) (cs : List Value)
    (hu : P.underlying dT = some (.slice elem)) (hs : szOf P elem = some sz) (hg : w.heap[g]? = some (.cells cur t (0, 0))) (hl : (Builtin.lenOf s).run P w = .ok sLen w)
    (hf : (Builtin.firstCells sz (Nat.min sLen dLen) s).run P w = .ok cs.toArray w) (hfit : o + cs.length ≤ cur.size) (h1 : ∀ v ∈ cs, v.oneCell' = true) :
    (Builtin.copy_ #[dT, sT] ty #[.slice (some ⟨g, o, none⟩) dLen dCap, s]).run P w = .ok (goInt (Nat.min sLen dLen)) (w.setRow g (cur.toList.take o ++ cs ++ cur.toList.drop (o + cs.length)).toArray) := by
  have hst := run_storeCells_at P g o t cs 0 cur w hg (by simpa using hfit) h1
  simp only [Nat.add_zero] at hst
  unfold Builtin.copy_
  simp [run_underlying hu, hl, run_sizeOf hs, hf, hst]
theorem run_copy_zero {P : Program} (w : World) (dT sT ty elem : TypeId) (sz dLen dCap sLen : Nat) (d : Option Addr) (s : Value) (hu : P.underlying dT = some (.slice elem)) (hs : szOf P elem = some sz) (hl : (Builtin.lenOf s).run P w = .ok sLen w)
    (hf : (Builtin.firstCells sz 0 s).run P w = .ok #[] w) (h0 : Nat.min sLen dLen = 0) :
    (Builtin.copy_ #[dT, sT] ty #[.slice d dLen dCap, s]).run P w = .ok (goInt 0) w := by
  unfold Builtin.copy_
  cases d <;> simp [run_underlying hu, hl, run_sizeOf hs, hf, h0, storeCells]
def SrcV (P : Program) (Fs : List Hp) (bl : Blks) (sl : List OwnS) {α : Type} (Q : Rep α) (G : Hp) (s : Value) (ls : List α) : Prop :=
  ∀ w, Mem Fs bl sl w → (Builtin.lenOf s).run P w = .ok ls.length w ∧ ∀ n, n ≤ ls.length → n ≤ 16777216 → ∃ c : List Value, (Builtin.firstCells Q.sz n s).run P w = .ok c.toArray w ∧ OL Q G c (ls.take n)
section
variable {α : Type} {Q : Rep α} {G : Hp}
theorem OL.take {cs : List Value} {l : List α} (h : OL Q G cs l) (i : Nat) : OL Q G (cs.take (i * Q.sz)) (l.take i) := by
  obtain ⟨hb, xs, rfl, h3, h4, h5⟩ := h
  have key : ∀ (xs : List (List Value)) (i : Nat), (∀ x ∈ xs, x.length = Q.sz) → xs.flatten.take (i * Q.sz) = (xs.take i).flatten := by
    intro xs
    induction xs with
    | nil => intro i _; simp
    | cons x xs ih =>
      intro i hx
      cases i with
      | zero => simp
      | succ i =>
        have hl := hx x List.mem_cons_self
        rw [List.flatten_cons, List.take_succ_cons, List.flatten_cons, ← ih i fun y hy => hx y (List.mem_cons_of_mem _ hy), Nat.add_mul, List.take_append, hl, List.take_of_length_le (by omega)]
        congr 2; omega
  refine ⟨by rw [List.length_take]; omega, xs.take i, key xs i h3, fun x hx => h3 x (List.mem_of_mem_take hx), by rw [List.length_take, List.length_take, h4], fun j c x hc hx => ?_⟩
  have hj : j < i := by
    rcases Nat.lt_or_ge j i with h | h
    · exact h
    · rw [List.getElem?_take_eq_none h] at hx; cases hx
  rw [List.getElem?_take_of_lt hj] at hc hx
  exact h5 j c x hc hx
theorem OL.drop {cs : List Value} {l : List α} (h : OL Q G cs l) (i : Nat) : OL Q G (cs.drop (i * Q.sz)) (l.drop i) := by
  obtain ⟨hb, xs, rfl, h3, h4, h5⟩ := h
  have key : ∀ (xs : List (List Value)) (i : Nat), (∀ x ∈ xs, x.length = Q.sz) → xs.flatten.drop (i * Q.sz) = (xs.drop i).flatten := by
    intro xs
    induction xs with
    | nil => intro i _; simp
    | cons x xs ih =>
      intro i hx
      cases i with
      | zero => simp
      | succ i =>
        have hl := hx x List.mem_cons_self
        rw [List.flatten_cons, List.drop_succ_cons, ← ih i fun y hy => hx y (List.mem_cons_of_mem _ hy), Nat.add_mul, List.drop_append, hl, List.drop_of_length_le (by omega), List.nil_append]
        congr 1; omega
  refine ⟨by rw [List.length_drop]; omega, xs.drop i, key xs i h3, fun x hx => h3 x (List.mem_of_mem_drop hx), by rw [List.length_drop, List.length_drop, h4], fun j c x hc hx => ?_⟩
  rw [List.getElem?_drop] at hc hx
  exact h5 _ c x hc hx
theorem OL.append {cs cs' : List Value} {l l' : List α} (h : OL Q G cs l) (h' : OL Q G cs' l') (hb : l.length + l'.length ≤ 16777216) : OL Q G (cs ++ cs') (l ++ l') := by
  obtain ⟨_, xs, rfl, h3, h4, h5⟩ := h
  obtain ⟨_, ys, rfl, k3, k4, k5⟩ := h'
  refine ⟨by rw [List.length_append]; exact hb, xs ++ ys, by rw [List.flatten_append], fun x hx => ?_, by rw [List.length_append, List.length_append, h4, k4], fun j c x hc hx => ?_⟩
  · rcases List.mem_append.1 hx with hx | hx
    · exact h3 x hx
    · exact k3 x hx
  · by_cases hj : j < xs.length
    · rw [List.getElem?_append_left hj] at hc
      rw [List.getElem?_append_left (by omega)] at hx
      exact h5 j c x hc hx
    · rw [List.getElem?_append_right (by omega)] at hc
      rw [List.getElem?_append_right (by omega)] at hx
      rw [h4] at hc
      exact k5 _ c x hc hx
theorem OL.ones {cs : List Value} {l : List α} (h : OL Q G cs l) : ∀ v ∈ cs, v.oneCell' = true := fun v hv => by
  obtain ⟨_, xs, rfl, h3, h4, h5⟩ := h
  obtain ⟨x, hx, hvx⟩ := List.mem_flatten.1 hv
  obtain ⟨i, hi, rfl⟩ := List.getElem_of_mem hx
  have := Q.one (h5 i _ _ (List.getElem?_eq_getElem hi) (List.getElem?_eq_getElem (by omega)))
  exact List.all_eq_true.1 this v hvx
end
section
variable {P : Program} {Fs : List Hp} {bl : Blks} {sl : List OwnS} {α : Type} {Q : Rep α} {G : Hp}
theorem SrcV.nil : SrcV P Fs bl sl Q G (.slice none 0 0) ([] : List α) := fun w _ => ⟨rfl, fun n hn _ => by
  obtain rfl : n = 0 := by simpa using hn
  exact ⟨[], by simp [Builtin.firstCells], OL.nil⟩⟩
theorem SrcV.rd {a : Option Addr} {k : Nat} {l : List α} (h : SlR Q G a k l) (hG : G ∈ Fs) : SrcV P Fs bl sl Q G (.slice a l.length k) l := fun w hm => ⟨rfl, fun n hn hb => by
  obtain ⟨xs, h1, h2, h3, h4⟩ := h.cells
  have ho : OL Q G (xs.take n).flatten (l.take n) := by
    refine ⟨by rw [List.length_take]; omega, xs.take n, rfl, fun x hx => h1 x (List.mem_of_mem_take hx), by rw [List.length_take, List.length_take, h2.1], fun j c x hc hx => ?_⟩
    have hj : j < n := by
      rcases Nat.lt_or_ge j n with h | h
      · exact h
      · rw [List.getElem?_take_eq_none h] at hx; cases hx
    rw [List.getElem?_take_of_lt hj] at hc hx
    exact h2.2 j c x hc hx
  refine ⟨_, ?_, ho⟩
  have hcl := ho.clen
  rw [List.length_take, Nat.min_eq_left hn] at hcl
  cases a with
  | none =>
    have := h3 rfl
    subst this
    obtain rfl : n = 0 := by simpa using hn
    simp [Builtin.firstCells]
  | some ad =>
    refine run_firstCells_some _ _ _ _ _ _ _ hcl fun j v hj => ?_
    have hpre : (xs.take n).flatten <+: xs.flatten := ⟨(xs.drop n).flatten, by rw [← List.flatten_append, List.take_append_drop]⟩
    obtain ⟨r, hr⟩ := hpre
    refine h4 w (hm.fs G hG) ad rfl j v ?_
    rw [← hr, List.getElem?_append_left (List.getElem?_eq_some_iff.1 hj).1]
    exact hj⟩
theorem SrcV.part (q : Nat) {a : Option Addr} {m T : Nat} {l ls : List α} {cs : List Value} {v : Value} {i : Nat} (hs : sl[q]? = some (.s (.slice a l.length m) T Q.sz l.length cs)) (ho : OL Q G cs l) (hp : PartV a Q.sz v i ls.length) (hl : ls = (l.drop i).take ls.length) : SrcV P Fs bl sl Q G v ls := fun w hm => by
  obtain ⟨a', c', rfl, hc, ha⟩ := hp
  refine ⟨rfl, fun n hn hb => ?_⟩
  by_cases h0 : n = 0
  · subst h0
    refine ⟨[], ?_, by simpa using OL.nil⟩
    cases a' with
    | none => simp [Builtin.firstCells]
    | some ad => exact run_firstCells_some (P := P) (w := w) (size := Q.sz) (n := 0) (b := ad) (len := ls.length) (cap := c') (cs := []) (by simp) (by simp)
  have hlen : ls.length ≤ l.length - i := by
    have := congrArg List.length hl
    rw [List.length_take, List.length_drop] at this
    omega
  have hown : w.ownsRow 0 T Q.sz (.slice a l.length m) l.length cs := hm.slh _ (List.mem_of_getElem? hs)
  obtain ⟨g, rfl, hcell⟩ := own_cells hown (by omega)
  have := ha (by omega) g rfl
  subst this
  have h1 := (ho.drop i).take n
  have e : (l.drop i).take n = ls.take n := by rw [hl, List.take_take, Nat.min_eq_left hn]
  rw [e] at h1
  refine ⟨_, ?_, h1⟩
  have hcl := h1.clen
  have hln : (ls.take n).length = n := by simp; omega
  rw [hln] at hcl
  refine run_firstCells_some _ _ _ _ _ _ _ hcl fun j u hj => ?_
  have hjl : j < n * Q.sz := by rw [← hcl]; exact (List.getElem?_eq_some_iff.1 hj).1
  rw [List.getElem?_take_of_lt hjl, List.getElem?_drop] at hj
  rw [addr_add]
  refine hcell _ _ ?_ hj
  have h2 : (i + n) * Q.sz ≤ l.length * Q.sz := Nat.mul_le_mul_right _ (by omega)
  rw [Nat.add_mul] at h2
  omega
theorem SrcV.osub (q : Nat) {a : Option Addr} {m T : Nat} {l ls : List α} {cs : List Value} {v : Value} {lo hi : Int} (hs : sl[q]? = some (.s (.slice a l.length m) T Q.sz l.length cs)) (ho : OL Q G cs l) (hp : PartV a Q.sz v lo.toNat (hi - lo).toNat) (hu : lsub l lo hi = some ls) : SrcV P Fs bl sl Q G v ls := by
  obtain ⟨h1, h2, h3, rfl⟩ := lsub_some hu
  have e : ((l.drop lo.toNat).take (hi - lo).toNat).length = (hi - lo).toNat := by simp only [List.length_take, List.length_drop]; omega
  exact SrcV.part q hs ho (by rw [e]; exact hp) (by rw [e])
theorem SrcV.own (q : Nat) {a : Option Addr} {m T : Nat} {l : List α} {cs : List Value} (hs : sl[q]? = some (.s (.slice a l.length m) T Q.sz l.length cs)) (ho : OL Q G cs l) (hc : l.length ≤ m) : SrcV P Fs bl sl Q G (.slice a l.length m) l :=
  SrcV.part q hs ho (PartV.whole hc) (by simp)
theorem SrcV.str {s : ByteArray} (hs : s.size ≤ 9223372036854775807) : SrcV P Fs bl sl (Rep.int .u8) G (.string s) (toB s) := fun w _ => by
  have hlen : (toB s).length = s.size := by unfold toB; simp
  refine ⟨by rw [hlen]; rfl, fun n hn hb => ?_⟩
  have e : (Builtin.firstCells (Rep.int .u8).sz n (.string s)).run P w = .ok (((toB s).take n).map fun x => Value.int .u8 x).toArray w := by
    simp only [Builtin.firstCells]
    show Result.ok _ w = _
    congr 1
    apply Array.ext'
    unfold toB
    simp [ByteArray.data_extract, List.map_take]
    rfl
  refine ⟨_, e, ?_⟩
  exact (OL.one_iff rfl).2 ⟨by rw [List.length_take]; omega, by simp, fun j v x hv hx => by
    rw [List.getElem?_map, hx] at hv
    simp only [Option.map_some, Option.some.injEq] at hv
    subst hv
    rfl⟩
end
section
variable {P : Program} {c : Cx} {R : Value → World → Prop} {nt : Nat} {w0 : World} {S0 : List Nat} {df : List Deferred} {ρ ρ' : Env} {Fs Fs' Fin B : List Hp} {bl bl' : Blks} {sl sl' : List OwnS}
  {K K' : Act → World → Prop} {k : List Item} {ty : TypeId} {G : Hp} {α : Type}
theorem QOp.sliceP {a : Option Addr} {sz : Nat} {lo hi i j : Int} {u : Int × Int} {v : Value} {t el : TypeId} {x : Operand} {l h : Option Operand} (hx : ev ρ x = some v) (hp : PartV a sz v lo.toNat (hi - lo).toNat) (hu : psub lo hi i j = some u)
    (ht : slOf P t = some el) (hz : szOf P el = some sz) (hlo : 0 ≤ i → Bnd ρ 0 l i.toNat) (hhi : 0 ≤ j → Bnd ρ (hi - lo).toNat h j.toNat) : QOp P ρ Fs bl sl (.slice t x l h none) ty (subV v i.toNat j.toNat sz) := by
  obtain ⟨h1, h2, h3, h4, _⟩ := psub_some hu
  obtain ⟨a', c', rfl, hc, _⟩ := hp
  exact .slice_sl hx rfl ht hz (hlo h2) (hhi (by omega)) (by omega) (by omega)
theorem PartV.psub {a : Option Addr} {sz : Nat} {lo hi i j : Int} {u : Int × Int} {v : Value} (hp : PartV a sz v lo.toNat (hi - lo).toNat) (hu : psub lo hi i j = some u) : PartV a sz (subV v i.toNat j.toNat sz) u.1.toNat (u.2 - u.1).toNat := by
  obtain ⟨h1, h2, h3, h4, rfl⟩ := psub_some hu
  have := hp.sub (i' := i.toNat) (j' := j.toNat) (by omega) (by omega)
  have e1 : lo.toNat + i.toNat = (lo + i).toNat := by omega
  have e2 : j.toNat - i.toNat = (lo + j - (lo + i)).toNat := by omega
  rw [e1, e2] at this
  exact this
theorem PartV.all {a : Option Addr} {sz n m : Nat} (h : n ≤ m) : PartV a sz (.slice a n m) (0 : Int).toNat ((n : Int) - 0).toNat := by
  have := PartV.whole (a := a) (sz := sz) h
  simpa using this
theorem Cov.copyG (q : Nat) {Q : Rep α} {d : Nat} {t t2 e : TypeId} {x y : Operand} {v s : Value} {a : Option Addr} {m T : Nat} {l ld ls : List α} {lo hi : Int} {cs : List Value} (hs : Stp P K' ⟨some d, .call ⟨.builtin .copy, #[x, y], #[t, t2]⟩, ty, none⟩ K) (ht : slOf P t = some e) (hz : szOf P e = some Q.sz)
    (hi0 : sl[q]? = some (.s (.slice a l.length m) T Q.sz l.length cs)) (ho : OL Q G cs l) (hd1 : lsub l lo hi = some ld) (hx : ev ρ x = some v) (hp : PartV a Q.sz v lo.toNat (hi - lo).toNat) (hy : ev ρ y = some s) (hsrc : SrcV P Fs bl sl Q G s ls) (hd : Nat.blt d nt = true)
    (hk : ∀ cs', (lcpy l lo ld.length ls).length = l.length → OL Q G cs' (lcpy l lo ld.length ls) → Cov nt w0 S0 df ((d, .int .i64 ((min ls.length ld.length : Nat) : Int)) :: ρ) Fs bl (sl.set q (.s (.slice a (lcpy l lo ld.length ls).length m) T Q.sz (lcpy l lo ld.length ls).length cs')) K) : Cov nt w0 S0 df ρ Fs bl sl K' := fun a' w hf hinv => by
  refine hs a' w ?_
  obtain ⟨a1, a2, a3, rfl⟩ := lsub_some hd1
  have hld : ((l.drop lo.toNat).take (hi - lo).toNat).length = (hi - lo).toNat := by simp only [List.length_take, List.length_drop]; omega
  rw [hld] at hk
  have hown : w.ownsRow 0 T Q.sz (.slice a l.length m) l.length cs := hinv.mem.slh _ (List.mem_of_getElem? hi0)
  obtain ⟨hlen, hcells⟩ := hsrc w hinv.mem
  obtain ⟨pa, pc, rfl, hpc, hpa⟩ := hp
  have hrunv : ∀ {z : Value} {w' : World}, (Builtin.copy_ #[t, t2] ty #[.slice pa (hi - lo).toNat pc, s]).run P w = .ok z w' →
      (execOp a'.eval (⟨some d, .call ⟨.builtin .copy, #[x, y], #[t, t2]⟩, ty, none⟩ : OpX).oper).run P w = .ok (.value z) w' := fun {z w'} h => by
    refine run_builtin (run_v (s := Builtin.copy_ #[t, t2] ty (#[x, y].map a'.eval)) ?_)
    rw [show #[x, y].map a'.eval = #[a'.eval x, a'.eval y] from by simp, ev_sound hf hx, ev_sound hf hy]
    exact h
  unfold Oper.wp
  by_cases h0 : Nat.min ls.length (hi - lo).toNat = 0
  · obtain ⟨c0, hc0, ho0⟩ := hcells 0 (by omega) (by omega)
    have hc00 : c0 = [] := by
      have := ho0.clen
      simp at this
      exact this
    subst hc00
    rw [hrunv (run_copy_zero w t t2 ty e Q.sz (hi - lo).toNat pc ls.length pa s (slOf_spec ht) hz hlen hc0 h0)]
    have h0' : min ls.length (hi - lo).toNat = 0 := h0
    have e1 := lcpy_nothing (l := l) (i := lo) h0'
    have hk' := hk cs (by rw [e1]) (by rw [e1]; exact ho)
    rw [e1, h0'] at hk'
    have e3 : sl.set q (.s (.slice a l.length m) T Q.sz l.length cs) = sl := by
      apply List.ext_getElem?
      intro z
      rw [List.getElem?_set]
      split
      · rename_i hh; subst hh
        split
        · exact hi0.symm
        · rename_i hlt; rw [List.getElem?_eq_none (by omega)]
      · rfl
    rw [e3] at hk'
    exact hk' _ _ (hf.put hd _) hinv
  · have hmin : min ls.length (hi - lo).toNat ≠ 0 := h0
    generalize hnn : min ls.length (hi - lo).toNat = n at hmin hk
    have hnn' : Nat.min ls.length (hi - lo).toNat = n := hnn
    have hb := ho.1
    obtain ⟨c0, hc0, ho0⟩ := hcells n (by omega) (by omega)
    rcases hown.2 with ⟨_, hl0⟩ | ⟨g, cap', cur, hv, hbase, hg, hnc, hm2, hcs, htake⟩
    · omega
    · cases hv
      have := hpa (by omega) g rfl
      subst this
      have hc0l := ho0.clen
      rw [List.length_take, Nat.min_eq_left (by omega)] at hc0l
      have hnl : (lo.toNat + n) * Q.sz ≤ l.length * Q.sz := Nat.mul_le_mul_right _ (by omega)
      have hlm : l.length * Q.sz ≤ m * Q.sz := Nat.mul_le_mul_right _ hnc
      have hnl' := hnl
      rw [Nat.add_mul] at hnl
      have hrun := run_copy_gen (P := P) w t t2 ty e Q.sz g (lo.toNat * Q.sz) (hi - lo).toNat pc ls.length s cur T c0 (slOf_spec ht) hz hg hlen (by rw [hnn']; exact hc0) (by rw [hc0l, hcs]; omega) ho0.ones
      rw [hrunv hrun]
      have hll : (lcpy l lo (hi - lo).toNat ls).length = l.length := lcpy_length (by omega)
      have hsrc2 : ls.take (hi - lo).toNat = ls.take n := by
        rcases Nat.le_total ls.length (hi - lo).toNat with hle | hle
        · rw [List.take_of_length_le hle, List.take_of_length_le (by omega)]
        · rw [show n = (hi - lo).toNat from by omega]
      have hlc : lcpy l lo (hi - lo).toNat ls = l.take lo.toNat ++ ls.take n ++ l.drop (lo.toNat + n) := by
        unfold lcpy; rw [hnn, hsrc2]
      have hol : OL Q G (cs.take (lo.toNat * Q.sz) ++ c0 ++ cs.drop ((lo.toNat + n) * Q.sz)) (lcpy l lo (hi - lo).toNat ls) := by
        rw [hlc]
        exact ((ho.take lo.toNat).append ho0 (by simp only [List.length_take]; omega)).append (ho.drop (lo.toNat + n)) (by simp only [List.length_append, List.length_take, List.length_drop]; omega)
      have hk' := hk _ hll hol
      rw [hll] at hk'
      have hcl := ho.clen
      have hcur : cur.toList = cs ++ cur.toList.drop (l.length * Q.sz) := by rw [← htake, List.take_append_drop]
      refine hk' _ _ ?_ (hinv.set_s q hi0 (s' := .s (.slice (some ⟨g, 0, none⟩) l.length m) T Q.sz l.length _) ?_ ?_ (by simp [OwnS.blocks, Value.ownBlock]) (fun b hb => .inl (by simpa [OwnS.blocks, Value.ownBlock] using hb)))
      · have := hf.put hd (goInt (Nat.min ls.length (hi - lo).toNat))
        rw [hnn'] at this ⊢
        exact this
      · refine ⟨rfl, rfl, rfl, by simp [World.setRow], fun x _ hD => setRow_other w g x _ (by simpa [OwnS.blocks, Value.ownBlock] using hD)⟩
      · have hclen := hol.clen
        rw [hll] at hclen
        refine ⟨hclen, .inr ⟨g, m, _, rfl, Nat.zero_le _, setRow_heap w g _ _ T (0, 0) hg, hnc, hm2, ?_, ?_⟩⟩
        · simp only [List.size_toArray, List.length_append, List.length_take, List.length_drop, Array.length_toList, hc0l]
          omega
        · simp only []
          rw [hcur]
          have e1 : List.take (lo.toNat * Q.sz) (cs ++ List.drop (l.length * Q.sz) cur.toList) = List.take (lo.toNat * Q.sz) cs := List.take_append_of_le_length (by omega)
          have e2 : List.drop (lo.toNat * Q.sz + c0.length) (cs ++ List.drop (l.length * Q.sz) cur.toList) = List.drop ((lo.toNat + n) * Q.sz) cs ++ List.drop (l.length * Q.sz) cur.toList := by
            rw [List.drop_append_of_le_length (by omega), hc0l, Nat.add_mul]
          rw [e1, e2, ← List.append_assoc]
          exact List.take_left' (by rw [hclen])
end
end Go.Proofs.YtnfalgmfmiolbaaGreat
end

section
namespace Go.Proofs.YtnfalgmfmiolbaaGreat
open Go.RowKit
set_option linter.unusedVariables false
variable {P : Program} {c : Cx} {R : Value → World → Prop} {nt : Nat} {w0 : World} {S0 : List Nat} {df : List Deferred} {ρ ρ' : Env} {Fs Fs' Fin B : List Hp} {bl bl' : Blks} {sl sl' : List OwnS}
  {K K' : Act → World → Prop} {k : List Item} {ty : TypeId} {G : Hp} {α : Type}
theorem QOp.mkIface {t : TypeId} {x : Operand} {v : Value} (hx : ev ρ x = some v) (ht : P.concrete t = true) : QOp P ρ Fs bl sl (.makeInterface t x) ty (.iface t v) := .of fun e he w _ => by
  refine run_v (s := Instr.makeInterface t (e x)) ?_
  rw [he x _ hx]
  exact run_makeInterface (w := w) t v ht
theorem Stp.self (o : OpX) (K : Act → World → Prop) : Stp P (fun a w => Oper.wp P o.oper a w K Qf) o K := fun _ _ h => h
theorem run_invoke_method {t : TypeId} {v : Value} {name : String} {F : FuncId} {as1 : Array Value} {w : World} (hm : (method (P.types.size + Made.depth) t v name).run P w = .ok (F, v) w) :
    (invoke (.fn (.method name) #[]) (#[.iface t v] ++ as1)).run P w = (callFunc F (#[v] ++ as1)).run P w := by
  have h0 : (#[Value.iface t v] ++ as1)[0]? = some (.iface t v) := by
    rw [← Array.getElem?_toList, Array.toList_append]; rfl
  have h1 : (#[Value.iface t v] ++ as1).extract 1 (#[Value.iface t v] ++ as1).size = as1 := by
    apply Array.ext'
    simp
  have h2 : invoke (.fn (.method name) #[]) (#[.iface t v] ++ as1) = callMethod (.iface t v) name as1 := by
    unfold invoke
    simp only [h0, h1]
  rw [h2]
  unfold callMethod
  simp [hm]
theorem run_call_eq {e : Operand → Value} {d : Option Nat} {c : Call} {w : World} {T : Target} {as1 : Array Value} (h : (resolve e c ty).run P w = .ok { target := T, args := as1 } w) :
    (execOp e ⟨d, .call c, ty, "", #[], none⟩).run P w = (invoke T as1).run P w := by
  simp only [execOp, Sem.run_bind, h, Result.andThen_ok]
theorem Cov.viaI {d : Option Nat} {r : Operand} {name : String} {args : Array Operand} {ts : Array TypeId} {t : TypeId} {v : Value} {F : FuncId} (hs : Stp P K' ⟨d, .call ⟨.invoke r name, args, ts⟩, ty, none⟩ K) (hr : ev ρ r = some (.iface t v))
    (hm : ∀ w, (method (P.types.size + Made.depth) t v name).run P w = .ok (F, v) w)
    (h : ∀ K2, Stp P K2 ⟨d, .call ⟨.value (.const (.func (.func F) #[] #[])), #[.const v] ++ args, ts⟩, ty, none⟩ K → Cov nt w0 S0 df ρ Fs bl sl K2) : Cov nt w0 S0 df ρ Fs bl sl K' := fun a w hf hinv => by
  refine hs a w ?_
  have h2 := h _ (Stp.self _ _)
  have h3 := h2 a w hf hinv
  have er : a.eval r = .iface t v := ev_sound hf hr
  have e1 : (execOp a.eval (⟨d, .call ⟨.invoke r name, args, ts⟩, ty, none⟩ : OpX).oper).run P w = (execOp a.eval (⟨d, .call ⟨.value (.const (.func (.func F) #[] #[])), #[.const v] ++ args, ts⟩, ty, none⟩ : OpX).oper).run P w := by
    have r1 : (resolve a.eval ⟨.invoke r name, args, ts⟩ ty).run P w = .ok { target := .fn (.method name) #[], args := #[.iface t v] ++ args.map a.eval } w := by
      unfold resolve
      simp only [er]
      rfl
    have r2 : (resolve a.eval ⟨.value (.const (.func (.func F) #[] #[])), #[.const v] ++ args, ts⟩ ty).run P w = .ok { target := .fn (.func F) #[], args := #[v] ++ args.map a.eval } w := by
      have e3 : (#[Operand.const v] ++ args).map a.eval = #[v] ++ args.map a.eval := by
        have e4 : Array.map a.eval #[Operand.const v] = #[v] := by
          apply Array.ext'
          rw [Array.toList_map]; rfl
        rw [Array.map_append, e4]
      unfold resolve
      simp only [e3]
      simp [Act.eval, Deferred.ofValue]
    rw [show (⟨d, .call ⟨.invoke r name, args, ts⟩, ty, none⟩ : OpX).oper = ⟨d, .call ⟨.invoke r name, args, ts⟩, ty, "", #[], none⟩ from rfl, run_call_eq r1,
      show (⟨d, .call ⟨.value (.const (.func (.func F) #[] #[])), #[.const v] ++ args, ts⟩, ty, none⟩ : OpX).oper = ⟨d, .call ⟨.value (.const (.func (.func F) #[] #[])), #[.const v] ++ args, ts⟩, ty, "", #[], none⟩ from rfl, run_call_eq r2, run_invoke_method (hm w)]
    simp [invoke]
  unfold Oper.wp at h3 ⊢
  rw [e1]
  exact h3
end Go.Proofs.YtnfalgmfmiolbaaGreat
end
