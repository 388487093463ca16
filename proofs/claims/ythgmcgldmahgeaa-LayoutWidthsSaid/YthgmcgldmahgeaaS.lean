/- The lifted functions. Printed by wip/lift/drive.py. -/
import Derived.Test.YthgmcgldmahgeaaP1
import Derived.Test.YthgmcgldmahgeaaK19
namespace Go.Proofs.Ythgmcgldmahgeaa
set_option linter.unusedVariables false
set_option synthInstance.maxSize 2000
set_option synthInstance.maxHeartbeats 400000

def residue_Of_J1 (v36 : Int) : Option (Int × Bool) :=
  some (v36, true)
def residue_Of_B2 (kx37 : Int → Option (Int × Bool)) (z56 : Int) (rec52 : Int → Option (Int × Bool)) (v53 : Int) : Option (Int × Bool) :=
  if ((w64 (v53 * v53)) ≤ z56) then ((nz v53).bind fun _ => if ((Int.tmod z56 v53) = 0) then (some (0, false)) else
 rec52 (w64 (v53 + 1))) else
 kx37 z56
def residue_Of_L2 (kx37 : Int → Option (Int × Bool)) (z56 : Int) : Nat → Int → Option (Int × Bool)
  | 0, _ => none
  | n + 1, v53 => residue_Of_B2 kx37 z56 (residue_Of_L2 kx37 z56 n) v53
def residue_Of (x0 : Int) : Option (Int × Bool) :=
  if ((x0 < 2) ∨ (65521 < x0)) then (some (0, false)) else
 residue_Of_L2 residue_Of_J1 x0 big 2

def layout_digits_B1 (z13 : Int) (rec8 : Int → Int → Option Int) (v9 : Int) (v10 : Int) : Option Int :=
  if (v10 < 256) then (rec8 (w64 (v9 + 1)) (w64 (v10 * z13))) else
 some v9
def layout_digits_L1 (z13 : Int) : Nat → Int → Int → Option Int
  | 0, _, _ => none
  | n + 1, v9, v10 => layout_digits_B1 z13 (layout_digits_L1 z13 n) v9 v10
def layout_digits (x0 : Int) : Option Int :=
  layout_digits_L1 x0 big 1 x0

def layout_Digits (x0 : Int) : Option (Int × Int) :=
  (residue_Of x0).bind fun u2 => if ((!u2.2) = true) then (some (0, 9)) else
(layout_digits u2.1).bind fun u9 => some (u9, 0)

def layout_wide (x0 : Int) : Option Bool :=
  some (decide ((1 ≤ x0) ∧ (x0 ≤ 64)))

def layout_needed (x0 : Int) (x1 : Int) (x2 : Int) : Option Int :=
  (layout_digits x0).bind fun u1 => (nz x1).bind fun _ => some (max 1 (w64 (Int.tdiv (w64 ((w64 ((w64 (x2 * u1)) + x1)) - 1)) x1)))

def slices_Chunk_Lintint_f1_B1 (z33 : List Int) (z34 : Int) (rec25 : Int → Option (List (List Int))) (v30 : Int) : Option (List (List Int)) :=
  if (v30 < (z33.length : Int)) then ((lsub z33 v30 (z33.length : Int)).bind fun u39 => (lsub3 z33 v30 (w64 (v30 + (min z34 (u39.length : Int)))) (w64 (v30 + (min z34 (u39.length : Int))))).bind fun u45 => yc u45 <| rec25 (w64 (v30 + z34))) else
 some []
def slices_Chunk_Lintint_f1_L1 (z33 : List Int) (z34 : Int) : Nat → Int → Option (List (List Int))
  | 0, _ => none
  | n + 1, v30 => slices_Chunk_Lintint_f1_B1 z33 z34 (slices_Chunk_Lintint_f1_L1 z33 z34 n) v30
def slices_Chunk_Lintint_f1 (x1 : (List Int)) (x2 : Int) : Option ((List (List Int))) :=
  slices_Chunk_Lintint_f1_L1 x1 x2 big 0

def slices_Chunk_Lintint_J1 (z9 : Int) (z10 : List Int) : Option (List (List Int)) :=
  (slices_Chunk_Lintint_f1 z10 z9).bind fun u21 => some u21
def slices_Chunk_Lintint (x0 : (List Int)) (x1 : Int) : Option (List (List Int)) :=
  if (x1 < 1) then (none) else
(slices_Chunk_Lintint_J1 x1 x0)

def slices_Clone_Lintint (x0 : (List Int)) : Option (List Int) :=
  (lapp ([] : List Int) x0).bind fun u11 => some u11

def layout_rowsOf_J1 (v375 : List (List Int)) : Option (List (List Int)) :=
  some v375
def layout_rowsOf_B2 (kx381 : (List (List Int)) → Option (List (List Int))) (rec450 : (List (List Int)) → Option (List (List Int))) (x463 : (List Int)) (v444 : List (List Int)) : Option (List (List Int)) :=
  (slices_Clone_Lintint x463).bind fun u479 => (lapp v444 ([u479] : List (List Int))).bind fun u500 => rec450 u500
def layout_rowsOf_L2 (kx381 : (List (List Int)) → Option (List (List Int))) : List (List Int) → (List (List Int)) → Option (List (List Int))
  | [], v444 => kx381 v444
  | x463 :: xs, v444 => layout_rowsOf_B2 kx381 (layout_rowsOf_L2 kx381 xs) x463 v444
def layout_rowsOf_J3 (z218 : Int) (z219 : Int) (v212 : List Int) : Option (List (List Int)) :=
  (lfull z219.toNat 0 v212).bind fun u220 => (slices_Chunk_Lintint u220 z218).bind fun u230 => layout_rowsOf_L2 layout_rowsOf_J1 u230 ([] : List (List Int))
def layout_rowsOf_B4 (rec600 : (List Int) → Option (List (List Int))) (z671 : Int) (z675 : Int) (z676 : Int) (rec657 : (List Int) → Int → Int → Option (List (List Int))) (v662 : List Int) (v666 : Int) (v667 : Int) : Option (List (List Int)) :=
  if (v667 < z675) then ((nz z671).bind fun _ => (lapz z676.toNat v662 ([(Int.tmod v666 z671)] : List Int)).bind fun u695 => (nz z671).bind fun _ => rec657 u695 (w64 (Int.tdiv v666 z671)) (w64 (v667 + 1))) else
 rec600 v662
def layout_rowsOf_L4 (rec600 : (List Int) → Option (List (List Int))) (z671 : Int) (z675 : Int) (z676 : Int) : Nat → (List Int) → Int → Int → Option (List (List Int))
  | 0, _, _, _ => none
  | n + 1, v662, v666, v667 => layout_rowsOf_B4 rec600 z671 z675 z676 (layout_rowsOf_L4 rec600 z671 z675 z676 n) v662 v666 v667
def layout_rowsOf_B5 (kx216 : (List Int) → Option (List (List Int))) (z614 : Int) (z618 : Int) (rec600 : (List Int) → Option (List (List Int))) (x620 : Int) (v608 : List Int) : Option (List (List Int)) :=
  (layout_digits z614).bind fun u625 => layout_rowsOf_L4 rec600 z614 u625 z618 big v608 (w64 x620) 0
def layout_rowsOf_L5 (kx216 : (List Int) → Option (List (List Int))) (z614 : Int) (z618 : Int) : (List Int) → (List Int) → Option (List (List Int))
  | [], v608 => kx216 v608
  | x620 :: xs, v608 => layout_rowsOf_B5 kx216 z614 z618 (layout_rowsOf_L5 kx216 z614 z618 xs) x620 v608
def layout_rowsOf (x0 : Int) (x1 : Int) (x2 : ByteArray) : Option (List (List Int)) :=
  (layout_needed x0 x1 (x2.size : Int)).bind fun u1 => (lcap (w64 (u1 * x1))).bind fun _ => (tobs x2).bind fun u11 => layout_rowsOf_L5 (layout_rowsOf_J3 x1 (w64 (u1 * x1))) x0 (w64 (u1 * x1)) u11 ([] : List Int)

def layout_Encode_J1 (v243 : List (List Int)) (v249 : Int) (v250 : List (Int × Int × Int)) (v256 : Int) (v257 : Int) : Option ((List (List Int)) × (Int × (List (Int × Int × Int))) × Int) :=
  some (v243, (v249, v250), 0)
def layout_Encode_B2 (kx258 : (List (List Int)) → Int → (List (Int × Int × Int)) → Int → Int → Option ((List (List Int)) × (Int × (List (Int × Int × Int))) × Int)) (z429 : Int) (z430 : Int) (z433 : Int) (rec407 : (List (List Int)) → (List (Int × Int × Int)) → Option ((List (List Int)) × (Int × (List (Int × Int × Int))) × Int)) (x435 : ByteArray) (v415 : List (List Int)) (v421 : List (Int × Int × Int)) : Option ((List (List Int)) × (Int × (List (Int × Int × Int))) × Int) :=
  (if (1024 < (x435.size : Int)) then (some true) else (layout_needed z430 z429 (x435.size : Int)).bind fun u487 => some (decide (1024 < (w64 ((v415.length : Int) + u487))))).bind fun u446 => if (u446 = true) then (some (([] : List (List Int)), (0, ([] : List (Int × Int × Int))), 4)) else
(layout_rowsOf z430 z429 x435).bind fun u455 => (lapp v415 u455).bind fun u472 => (lapp v421 ([((v415.length : Int), (w64 ((u472.length : Int) - (v415.length : Int))), (x435.size : Int))] : List (Int × Int × Int))).bind fun u482 => rec407 u472 u482
def layout_Encode_L2 (kx258 : (List (List Int)) → Int → (List (Int × Int × Int)) → Int → Int → Option ((List (List Int)) × (Int × (List (Int × Int × Int))) × Int)) (z429 : Int) (z430 : Int) (z433 : Int) : (List ByteArray) → (List (List Int)) → (List (Int × Int × Int)) → Option ((List (List Int)) × (Int × (List (Int × Int × Int))) × Int)
  | [], v415, v421 => kx258 v415 z429 v421 0 z433
  | x435 :: xs, v415, v421 => layout_Encode_B2 kx258 z429 z430 z433 (layout_Encode_L2 kx258 z429 z430 z433 xs) x435 v415 v421
def layout_Encode (x0 : Int) (x1 : Int) (x2 : (List ByteArray)) : Option ((List (List Int)) × (Int × (List (Int × Int × Int))) × Int) :=
  (residue_Of x0).bind fun u3 => if ((!u3.2) = true) then (some (([] : List (List Int)), (0, ([] : List (Int × Int × Int))), 9)) else
(layout_wide x1).bind fun u10 => if ((!u10) = true) then (some (([] : List (List Int)), (0, ([] : List (Int × Int × Int))), 1)) else
 if (256 < (x2.length : Int)) then (some (([] : List (List Int)), (0, ([] : List (Int × Int × Int))), 4)) else
 layout_Encode_L2 layout_Encode_J1 x1 u3.1 x0 x2 ([] : List (List Int)) ([] : List (Int × Int × Int))

def slices_IndexFunc_Lintint_B1 (z25 : Int → Option Bool) (rec18 : Option Int) (x28 : Int) (i18 : Nat) : Option Int :=
  (z25 x28).bind fun u33 => if (u33 = true) then (some (i18 : Int)) else
 rec18
def slices_IndexFunc_Lintint_L1 (z25 : Int → Option Bool) : (List Int) → Nat → Option Int
  | [], i18 => some (-1)
  | x28 :: xs, i18 => slices_IndexFunc_Lintint_B1 z25 (slices_IndexFunc_Lintint_L1 z25 xs (i18 + 1)) x28 i18 
def slices_IndexFunc_Lintint (x0 : (List Int)) (x1 : Int → Option Bool) : Option Int :=
  slices_IndexFunc_Lintint_L1 x1 x0 0 

def slices_ContainsFunc_Lintint (x0 : (List Int)) (x1 : Int → Option Bool) : Option Bool :=
  (slices_IndexFunc_Lintint x0 x1).bind fun u1 => some (decide (0 ≤ u1))

def residue_Field_Has (x0 : Int) (x1 : Int) : Option Bool :=
  some (decide ((0 ≤ x1) ∧ (x1 < x0)))

def residue_Field_All_f1 (x0 : Int) (x1 : Int) : Option Bool :=
  (residue_Field_Has x1 x0).bind fun u1 => some (!u1)

def residue_Field_All (x0 : Int) (x1 : (List Int)) : Option Bool :=
  (slices_ContainsFunc_Lintint x1 (fun y0 => residue_Field_All_f1 y0 x0)).bind fun u7 => some (!u7)

def slices_Backward_Lintint_f1_B1 (z26 : List Int) (rec18 : Int → Option (List (Int × Int))) (v23 : Int) : Option (List (Int × Int)) :=
  if (0 ≤ v23) then ((lidx z26 v23).bind fun u31 => yc (v23, u31) <| rec18 (w64 (v23 - 1))) else
 some []
def slices_Backward_Lintint_f1_L1 (z26 : List Int) : Nat → Int → Option (List (Int × Int))
  | 0, _ => none
  | n + 1, v23 => slices_Backward_Lintint_f1_B1 z26 (slices_Backward_Lintint_f1_L1 z26 n) v23
def slices_Backward_Lintint_f1 (x1 : (List Int)) : Option ((List (Int × Int))) :=
  slices_Backward_Lintint_f1_L1 x1 big (w64 ((x1.length : Int) - 1))

def slices_Backward_Lintint (x0 : (List Int)) : Option (List (Int × Int)) :=
  (slices_Backward_Lintint_f1 x0).bind fun u7 => some u7

def layout_Decode_f1 (x0 : Int) : Option Bool :=
  some (decide (x0 ≠ 0))

def layout_Decode_J1 (z648 : List Int) (z649 : Int) (z650 : Int) (v640 : List Int) : Option (ByteArray × Int) :=
  (lsub z648 (w64 (z649 * z650)) (z648.length : Int)).bind fun u655 => (slices_ContainsFunc_Lintint u655 layout_Decode_f1).bind fun u661 => if (u661 = true) then (some (ByteArray.empty, 2)) else
 some ((ofB v640), 0)
def layout_Decode_J2 (rec926 : (List Int) → Option (ByteArray × Int)) (z1020 : List Int) (v1014 : Int) : Option (ByteArray × Int) :=
  if (255 < v1014) then (some (ByteArray.empty, 2)) else
(lapp z1020 ([(wu8 v1014)] : List Int)).bind fun u1031 => rec926 u1031
def layout_Decode_B3 (kx1015 : Int → Option (ByteArray × Int)) (z1041 : Int) (rec1046 : Int → Option (ByteArray × Int)) (x1058 : (Int × Int)) (v1045 : Int) : Option (ByteArray × Int) :=
  rec1046 (w64 ((w64 (v1045 * z1041)) + x1058.2))
def layout_Decode_L3 (kx1015 : Int → Option (ByteArray × Int)) (z1041 : Int) : List (Int × Int) → Int → Option (ByteArray × Int)
  | [], v1045 => kx1015 v1045
  | x1058 :: xs, v1045 => layout_Decode_B3 kx1015 z1041 (layout_Decode_L3 kx1015 z1041 xs) x1058 v1045
def layout_Decode_B4 (kx646 : (List Int) → Option (ByteArray × Int)) (z912 : Int) (rec926 : (List Int) → Option (ByteArray × Int)) (x948 : (List Int)) (v920 : List Int) : Option (ByteArray × Int) :=
  (slices_Backward_Lintint x948).bind fun u965 => layout_Decode_L3 (layout_Decode_J2 rec926 v920) z912 u965 0
def layout_Decode_L4 (kx646 : (List Int) → Option (ByteArray × Int)) (z912 : Int) : List (List Int) → (List Int) → Option (ByteArray × Int)
  | [], v920 => kx646 v920
  | x948 :: xs, v920 => layout_Decode_B4 kx646 z912 (layout_Decode_L4 kx646 z912 xs) x948 v920
def layout_Decode_J5 (z192 : Int) (v180 : List Int) (v186 : Int) (v187 : Int) (v188 : ByteArray) (v189 : Int) : Option (ByteArray × Int) :=
  (layout_digits v186).bind fun u193 => (lsub v180 0 (w64 (z192 * u193))).bind fun u203 => (slices_Chunk_Lintint u203 u193).bind fun u209 => layout_Decode_L4 (layout_Decode_J1 v180 z192 u193) v186 u209 ([] : List Int)
def layout_Decode_B6 (kx190 : (List Int) → Int → Int → ByteArray → Int → Option (ByteArray × Int)) (z1194 : Int) (z1198 : Int) (z1199 : Int) (rec1182 : (List Int) → Option (ByteArray × Int)) (x1201 : (List Int)) (v1186 : List Int) : Option (ByteArray × Int) :=
  (if ((x1201.length : Int) ≠ z1194) then (some true) else (residue_Field_All z1198 x1201).bind fun u1232 => some (!u1232)).bind fun u1215 => if (u1215 = true) then (some (ByteArray.empty, 2)) else
(lapp v1186 x1201).bind fun u1227 => rec1182 u1227
def layout_Decode_L6 (kx190 : (List Int) → Int → Int → ByteArray → Int → Option (ByteArray × Int)) (z1194 : Int) (z1198 : Int) (z1199 : Int) : (List (List Int)) → (List Int) → Option (ByteArray × Int)
  | [], v1186 => kx190 v1186 z1198 0 ByteArray.empty z1199
  | x1201 :: xs, v1186 => layout_Decode_B6 kx190 z1194 z1198 z1199 (layout_Decode_L6 kx190 z1194 z1198 z1199 xs) x1201 v1186
def layout_Decode (x0 : Int) (x1 : Int) (x2 : Int) (x3 : (List (List Int))) : Option (ByteArray × Int) :=
  (residue_Of x0).bind fun u4 => if ((!u4.2) = true) then (some (ByteArray.empty, 9)) else
(layout_wide x1).bind fun u12 => if ((((!u12) = true) ∨ (x2 < 0)) ∨ (1024 < x2)) then (some (ByteArray.empty, 1)) else
(layout_needed u4.1 x1 x2).bind fun u27 => if ((x3.length : Int) ≠ u27) then (some (ByteArray.empty, 2)) else
 layout_Decode_L6 (layout_Decode_J5 x2) x1 u4.1 x0 x3 ([] : List Int)

def layout_Check_J1 (z94 : Int) (v90 : Int) (v91 : Int) : Option Int :=
  if (v90 ≠ z94) then (some 2) else
 some 0
def layout_Check_B2 (kx92 : Int → Int → Option Int) (z143 : Int) (z146 : Int) (rec136 : Int → Option Int) (x148 : (Int × Int × Int)) (v140 : Int) : Option Int :=
  if ((((((x148.2.2 < 0) ∨ (1024 < x148.2.2)) ∨ (x148.2.1 < 1)) ∨ (1024 < x148.2.1)) ∨ (x148.1 ≠ v140)) ∨ ((w64 (z143 - v140)) < x148.2.1)) then (some 2) else
 rec136 (w64 (v140 + x148.2.1))
def layout_Check_L2 (kx92 : Int → Int → Option Int) (z143 : Int) (z146 : Int) : (List (Int × Int × Int)) → Int → Option Int
  | [], v140 => kx92 v140 z146
  | x148 :: xs, v140 => layout_Check_B2 kx92 z143 z146 (layout_Check_L2 kx92 z143 z146 xs) x148 v140
def layout_Check (x0 : (Int × (List (Int × Int × Int)))) (x1 : Int) : Option Int :=
  (layout_wide x0.1).bind fun u2 => if (((!u2) = true) ∨ (256 < (x0.2.length : Int))) then (some 2) else
 layout_Check_L2 (layout_Check_J1 x1) x1 x0.1 x0.2 0

def layout_Record (x0 : Int) (x1 : (Int × (List (Int × Int × Int)))) (x2 : (List (List Int))) (x3 : Int) : Option (ByteArray × Int) :=
  (layout_Check x1 (x2.length : Int)).bind fun u3 => if (u3 ≠ 0) then (some (ByteArray.empty, u3)) else
 if ((x3 < 0) ∨ ((x1.2.length : Int) ≤ x3)) then (some (ByteArray.empty, 6)) else
(lidx x1.2 x3).bind fun u17 => (lsub x2 u17.1 (w64 (u17.1 + u17.2.1))).bind fun u23 => (layout_Decode x0 x1.1 u17.2.2 u23).bind fun u29 => some (u29.1, u29.2)

def ref04_Same_B1 (z29 : List Int) (rec22 : Option Bool) (x32 : Int) (i22 : Nat) : Option Bool :=
  (lidx z29 (i22 : Int)).bind fun u37 => if (x32 ≠ u37) then (some false) else
 rec22
def ref04_Same_L1 (z29 : List Int) : (List Int) → Nat → Option Bool
  | [], i22 => some true
  | x32 :: xs, i22 => ref04_Same_B1 z29 (ref04_Same_L1 z29 xs (i22 + 1)) x32 i22 
def ref04_Same (x0 : (List Int)) (x1 : (List Int)) : Option Bool :=
  if ((x0.length : Int) ≠ (x1.length : Int)) then (some false) else
 ref04_Same_L1 x1 x0 0 

def law13_sane : Option Bool :=
  (layout_Digits 17).bind fun u2 => (layout_Encode 17 2 ([⟨#[35]⟩] : List ByteArray)).bind fun u14 => (layout_Record 17 u14.2.1 u14.1 0).bind fun u29 => (if (((((u2.2 = 0) ∧ (u14.2.2 = 0)) ∧ (u29.2 = 0)) ∧ (u2.1 = 2)) ∧ ((u14.1.length : Int) = 1)) then ((lidx u14.1 0).bind fun u83 => (ref04_Same u83 ([1, 2] : List Int)).bind fun u99 => some u99) else some false).bind fun u71 => some (decide ((u71 = true) ∧ (u29.1 = ⟨#[35]⟩)))

def make_Few (x0 : (List Int)) : Option Bool :=
  some (decide ((x0.length : Int) ≤ 500))

def law13_small_B1 (rec15 : Int → Option Bool) (x25 : (List Int)) (v19 : Int) : Option Bool :=
  rec15 (w64 (v19 + (w64 (1 + (x25.length : Int)))))
def law13_small_L1 : (List (List Int)) → Int → Option Bool
  | [], v19 => some (decide (v19 < 2000))
  | x25 :: xs, v19 => law13_small_B1 (law13_small_L1 xs) x25 v19
def law13_small (x0 : (List (List Int))) : Option Bool :=
  law13_small_L1 x0 0

def make_New (x0 : (List Int)) : Option ((List Int) × Int) :=
  some (x0, 0)

def make_Mod (x0 : Int) (x1 : Int) : Option Int :=
  (nz x1).bind fun _ => (nz x1).bind fun _ => some (Int.tmod (w64 ((Int.tmod x0 x1) + x1)) x1)

def make_Deck_Next (x0 : ((List Int) × Int)) (x1 : Int) : Option (Int × ((List Int) × Int)) :=
  if ((x1 < 1) ∨ ((x0.1.length : Int) ≤ x0.2)) then (some (0, x0)) else
(lidx x0.1 x0.2).bind fun u8 => (make_Mod u8 x1).bind fun u13 => some (u13, (x0.1, (w64 (x0.2 + 1))))

def ref03_Check_B1 (z25 : Int) (rec21 : Int → Option Int) (v22 : Int) : Option Int :=
  if ((w64 (v22 * v22)) ≤ z25) then ((nz v22).bind fun _ => if ((Int.tmod z25 v22) = 0) then (some 9) else
 rec21 (w64 (v22 + 1))) else
 some 0
def ref03_Check_L1 (z25 : Int) : Nat → Int → Option Int
  | 0, _ => none
  | n + 1, v22 => ref03_Check_B1 z25 (ref03_Check_L1 z25 n) v22
def ref03_Check (x0 : Int) : Option Int :=
  if ((x0 < 2) ∨ (65521 < x0)) then (some 9) else
 ref03_Check_L1 x0 big 2

def ref13_digits_B1 (z15 : Int) (rec10 : Int → Int → Option Int) (v11 : Int) (v12 : Int) : Option Int :=
  if (v12 < 256) then (rec10 (w64 (v11 + 1)) (w64 (v12 * z15))) else
 some v11
def ref13_digits_L1 (z15 : Int) : Nat → Int → Int → Option Int
  | 0, _, _ => none
  | n + 1, v11, v12 => ref13_digits_B1 z15 (ref13_digits_L1 z15 n) v11 v12
def ref13_digits (x0 : Int) : Option Int :=
  ref13_digits_L1 x0 big 0 1

def ref13_need (x0 : Int) (x1 : Int) (x2 : Int) : Option Int :=
  (ref13_digits x0).bind fun u2 => (nz x1).bind fun _ => some (max 1 (w64 (Int.tdiv (w64 ((w64 ((w64 (x2 * u2)) + x1)) - 1)) x1)))

def ref13_Encode_J1 (v2220 : List (List Int)) (v2226 : Int) (v2227 : List (Int × Int × Int)) (v2233 : Int) (v2234 : Int) : Option ((List (List Int)) × (Int × (List (Int × Int × Int))) × Int) :=
  some (v2220, (v2226, v2227), 0)
def ref13_Encode_B2 (rec3647 : (List (List Int)) → Int → (List (Int × Int × Int)) → Int → Int → Option ((List (List Int)) × (Int × (List (Int × Int × Int))) × Int)) (z4095 : List Int) (z4097 : Int) (z4100 : Int) (z4101 : Int) (z4102 : Int) (z4103 : Int) (z4104 : List (Int × Int × Int)) (rec4081 : (List (List Int)) → Int → Option ((List (List Int)) × (Int × (List (Int × Int × Int))) × Int)) (v4086 : List (List Int)) (v4092 : Int) : Option ((List (List Int)) × (Int × (List (Int × Int × Int))) × Int) :=
  if (v4092 < z4100) then ((lsub z4095 (w64 (v4092 * z4097)) (w64 ((w64 (v4092 + 1)) * z4097))).bind fun u4109 => (lapp ([] : List Int) u4109).bind fun u4120 => (lapp v4086 ([u4120] : List (List Int))).bind fun u4135 => rec4081 u4135 (w64 (v4092 + 1))) else
 rec3647 v4086 z4101 z4104 z4102 z4103
def ref13_Encode_L2 (rec3647 : (List (List Int)) → Int → (List (Int × Int × Int)) → Int → Int → Option ((List (List Int)) × (Int × (List (Int × Int × Int))) × Int)) (z4095 : List Int) (z4097 : Int) (z4100 : Int) (z4101 : Int) (z4102 : Int) (z4103 : Int) (z4104 : List (Int × Int × Int)) : Nat → (List (List Int)) → Int → Option ((List (List Int)) × (Int × (List (Int × Int × Int))) × Int)
  | 0, _, _ => none
  | n + 1, v4086, v4092 => ref13_Encode_B2 rec3647 z4095 z4097 z4100 z4101 z4102 z4103 z4104 (ref13_Encode_L2 rec3647 z4095 z4097 z4100 z4101 z4102 z4103 z4104 n) v4086 v4092
def ref13_Encode_J3 (rec3647 : (List (List Int)) → Int → (List (Int × Int × Int)) → Int → Int → Option ((List (List Int)) × (Int × (List (Int × Int × Int))) × Int)) (z3972 : Int) (z3975 : ByteArray) (z3976 : Int) (z3977 : List (List Int)) (z3978 : List (Int × Int × Int)) (v3960 : List Int) (v3966 : Int) (v3967 : Int) (v3968 : Int) : Option ((List (List Int)) × (Int × (List (Int × Int × Int))) × Int) :=
  (lapp z3978 ([((z3977.length : Int), z3976, (z3975.size : Int))] : List (Int × Int × Int))).bind fun u3986 => ref13_Encode_L2 rec3647 v3960 z3972 z3976 v3966 v3967 v3968 u3986 big z3977 0
def ref13_Encode_B4 (kx3969 : (List Int) → Int → Int → Int → Option ((List (List Int)) × (Int × (List (Int × Int × Int))) × Int)) (z4172 : Int) (z4176 : Int) (z4177 : Int) (z4178 : Int) (z4179 : Int) (rec4162 : (List Int) → Option ((List (List Int)) × (Int × (List (Int × Int × Int))) × Int)) (v4163 : List Int) : Option ((List (List Int)) × (Int × (List (Int × Int × Int))) × Int) :=
  if ((v4163.length : Int) < (w64 (z4176 * z4172))) then ((lapp v4163 ([0] : List Int)).bind fun u4193 => rec4162 u4193) else
 kx3969 v4163 z4177 z4178 z4179
def ref13_Encode_L4 (kx3969 : (List Int) → Int → Int → Int → Option ((List (List Int)) × (Int × (List (Int × Int × Int))) × Int)) (z4172 : Int) (z4176 : Int) (z4177 : Int) (z4178 : Int) (z4179 : Int) : Nat → (List Int) → Option ((List (List Int)) × (Int × (List (Int × Int × Int))) × Int)
  | 0, _ => none
  | n + 1, v4163 => ref13_Encode_B4 kx3969 z4172 z4176 z4177 z4178 z4179 (ref13_Encode_L4 kx3969 z4172 z4176 z4177 z4178 z4179 n) v4163
def ref13_Encode_J5 (rec3647 : (List (List Int)) → Int → (List (Int × Int × Int)) → Int → Int → Option ((List (List Int)) × (Int × (List (Int × Int × Int))) × Int)) (z3896 : Int) (z3899 : ByteArray) (z3900 : Int) (z3901 : List (List Int)) (z3902 : List (Int × Int × Int)) (v3884 : List Int) (v3890 : Int) (v3891 : Int) (v3892 : Int) : Option ((List (List Int)) × (Int × (List (Int × Int × Int))) × Int) :=
  ref13_Encode_L4 (ref13_Encode_J3 rec3647 z3896 z3899 z3900 z3901 z3902) z3896 z3900 v3890 v3891 v3892 big v3884
def ref13_Encode_B6 (rec4288 : (List Int) → Int → Int → Int → Int → Option ((List (List Int)) × (Int × (List (Int × Int × Int))) × Int)) (z4358 : Int) (z4365 : Int) (z4366 : Int) (z4367 : Int) (z4368 : Int) (rec4347 : (List Int) → Int → Int → Option ((List (List Int)) × (Int × (List (Int × Int × Int))) × Int)) (v4348 : List Int) (v4354 : Int) (v4355 : Int) : Option ((List (List Int)) × (Int × (List (Int × Int × Int))) × Int) :=
  if (v4355 < z4365) then ((nz z4368).bind fun _ => (lapp v4348 ([(Int.tmod v4354 z4368)] : List Int)).bind fun u4384 => (nz z4368).bind fun _ => rec4347 u4384 (w64 (Int.tdiv v4354 z4368)) (w64 (v4355 + 1))) else
 rec4288 v4348 (w64 (z4358 + 1)) z4366 z4367 z4368
def ref13_Encode_L6 (rec4288 : (List Int) → Int → Int → Int → Int → Option ((List (List Int)) × (Int × (List (Int × Int × Int))) × Int)) (z4358 : Int) (z4365 : Int) (z4366 : Int) (z4367 : Int) (z4368 : Int) : Nat → (List Int) → Int → Int → Option ((List (List Int)) × (Int × (List (Int × Int × Int))) × Int)
  | 0, _, _, _ => none
  | n + 1, v4348, v4354, v4355 => ref13_Encode_B6 rec4288 z4358 z4365 z4366 z4367 z4368 (ref13_Encode_L6 rec4288 z4358 z4365 z4366 z4367 z4368 n) v4348 v4354 v4355
def ref13_Encode_B7 (kx3893 : (List Int) → Int → Int → Int → Option ((List (List Int)) × (Int × (List (Int × Int × Int))) × Int)) (z4305 : ByteArray) (rec4288 : (List Int) → Int → Int → Int → Int → Option ((List (List Int)) × (Int × (List (Int × Int × Int))) × Int)) (v4289 : List Int) (v4295 : Int) (v4296 : Int) (v4297 : Int) (v4298 : Int) : Option ((List (List Int)) × (Int × (List (Int × Int × Int))) × Int) :=
  if (v4295 < (z4305.size : Int)) then ((sidx z4305 v4295).bind fun u4313 => (ref13_digits v4298).bind fun u4315 => ref13_Encode_L6 rec4288 v4295 u4315 v4296 v4297 v4298 big v4289 (w64 u4313) 0) else
 kx3893 v4289 v4296 v4297 v4298
def ref13_Encode_L7 (kx3893 : (List Int) → Int → Int → Int → Option ((List (List Int)) × (Int × (List (Int × Int × Int))) × Int)) (z4305 : ByteArray) : Nat → (List Int) → Int → Int → Int → Int → Option ((List (List Int)) × (Int × (List (Int × Int × Int))) × Int)
  | 0, _, _, _, _, _ => none
  | n + 1, v4289, v4295, v4296, v4297, v4298 => ref13_Encode_B7 kx3893 z4305 (ref13_Encode_L7 kx3893 z4305 n) v4289 v4295 v4296 v4297 v4298
def ref13_Encode_B8 (kx2235 : (List (List Int)) → Int → (List (Int × Int × Int)) → Int → Int → Option ((List (List Int)) × (Int × (List (Int × Int × Int))) × Int)) (z3672 : Int) (rec3647 : (List (List Int)) → Int → (List (Int × Int × Int)) → Int → Int → Option ((List (List Int)) × (Int × (List (Int × Int × Int))) × Int)) (x3676 : ByteArray) (v3655 : List (List Int)) (v3661 : Int) (v3662 : List (Int × Int × Int)) (v3668 : Int) (v3669 : Int) : Option ((List (List Int)) × (Int × (List (Int × Int × Int))) × Int) :=
  (ref13_need v3669 z3672 (x3676.size : Int)).bind fun u3681 => (lcap (w64 (u3681 * z3672))).bind fun _ => ref13_Encode_L7 (ref13_Encode_J5 rec3647 z3672 x3676 u3681 v3655 v3662) x3676 big ([] : List Int) 0 v3661 v3668 v3669
def ref13_Encode_L8 (kx2235 : (List (List Int)) → Int → (List (Int × Int × Int)) → Int → Int → Option ((List (List Int)) × (Int × (List (Int × Int × Int))) × Int)) (z3672 : Int) : (List ByteArray) → (List (List Int)) → Int → (List (Int × Int × Int)) → Int → Int → Option ((List (List Int)) × (Int × (List (Int × Int × Int))) × Int)
  | [], v3655, v3661, v3662, v3668, v3669 => kx2235 v3655 v3661 v3662 v3668 v3669
  | x3676 :: xs, v3655, v3661, v3662, v3668, v3669 => ref13_Encode_B8 kx2235 z3672 (ref13_Encode_L8 kx2235 z3672 xs) x3676 v3655 v3661 v3662 v3668 v3669
def ref13_Encode_J9 (z69 : Int) (z70 : List ByteArray) (v64 : Int) (v65 : Int) (v66 : Int) : Option ((List (List Int)) × (Int × (List (Int × Int × Int))) × Int) :=
  if (1024 < v64) then (some (([] : List (List Int)), (0, ([] : List (Int × Int × Int))), 4)) else
 ref13_Encode_L8 ref13_Encode_J1 z69 z70 ([] : List (List Int)) z69 ([] : List (Int × Int × Int)) v65 v66
def ref13_Encode_B10 (kx67 : Int → Int → Int → Option ((List (List Int)) × (Int × (List (Int × Int × Int))) × Int)) (z4419 : Int) (z4422 : Int) (rec4412 : Int → Option ((List (List Int)) × (Int × (List (Int × Int × Int))) × Int)) (x4424 : ByteArray) (v4416 : Int) : Option ((List (List Int)) × (Int × (List (Int × Int × Int))) × Int) :=
  if (1024 < (x4424.size : Int)) then (some (([] : List (List Int)), (0, ([] : List (Int × Int × Int))), 4)) else
(ref13_need z4422 z4419 (x4424.size : Int)).bind fun u4432 => rec4412 (w64 (v4416 + u4432))
def ref13_Encode_L10 (kx67 : Int → Int → Int → Option ((List (List Int)) × (Int × (List (Int × Int × Int))) × Int)) (z4419 : Int) (z4422 : Int) : (List ByteArray) → Int → Option ((List (List Int)) × (Int × (List (Int × Int × Int))) × Int)
  | [], v4416 => kx67 v4416 0 z4422
  | x4424 :: xs, v4416 => ref13_Encode_B10 kx67 z4419 z4422 (ref13_Encode_L10 kx67 z4419 z4422 xs) x4424 v4416
def ref13_Encode (x0 : Int) (x1 : Int) (x2 : (List ByteArray)) : Option ((List (List Int)) × (Int × (List (Int × Int × Int))) × Int) :=
  (ref03_Check x0).bind fun u3 => if (u3 ≠ 0) then (some (([] : List (List Int)), (0, ([] : List (Int × Int × Int))), u3)) else
 if ((x1 < 1) ∨ (64 < x1)) then (some (([] : List (List Int)), (0, ([] : List (Int × Int × Int))), 1)) else
 if (256 < (x2.length : Int)) then (some (([] : List (List Int)), (0, ([] : List (Int × Int × Int))), 4)) else
 ref13_Encode_L10 (ref13_Encode_J9 x1 x2) x1 x0 x2 0

def make_Field (x0 : ((List Int) × Int)) : Option (Int × ((List Int) × Int)) :=
  (make_Deck_Next x0 9).bind fun u5 => (lidx ([2, 3, 5, 7, 11, 13, 17, 257, 65521] : List Int) u5.1).bind fun u12 => some (u12, u5.2)

def make_Text_J1 (v97 : List Int) (v103 : List Int) (v107 : Int) : Option (ByteArray × ((List Int) × Int)) :=
  some ((ofB v97), (v103, v107))
def make_Text_B2 (kx108 : (List Int) → (List Int) → Int → Option (ByteArray × ((List Int) × Int))) (rec169 : (List Int) → Int → (List Int) → Int → Option (ByteArray × ((List Int) × Int))) (v170 : List Int) (v176 : Int) (v177 : List Int) (v181 : Int) : Option (ByteArray × ((List Int) × Int)) :=
  if (0 < v176) then ((make_Deck_Next (v177, v181) 256).bind fun u188 => (lapp v170 ([(wu8 u188.1)] : List Int)).bind fun u202 => rec169 u202 (w64 (v176 - 1)) u188.2.1 u188.2.2) else
 kx108 v170 v177 v181
def make_Text_L2 (kx108 : (List Int) → (List Int) → Int → Option (ByteArray × ((List Int) × Int))) : Nat → (List Int) → Int → (List Int) → Int → Option (ByteArray × ((List Int) × Int))
  | 0, _, _, _, _ => none
  | n + 1, v170, v176, v177, v181 => make_Text_B2 kx108 (make_Text_L2 kx108 n) v170 v176 v177 v181
def make_Text (x0 : ((List Int) × Int)) (x1 : Int) : Option (ByteArray × ((List Int) × Int)) :=
  (make_Deck_Next x0 (w64 (x1 + 1))).bind fun u1 => make_Text_L2 make_Text_J1 big ([] : List Int) u1.1 u1.2.1 u1.2.2

def make_Records_B1 (rec69 : (List ByteArray) → Int → (List Int) → Int → Option ((List ByteArray) × ((List Int) × Int))) (v74 : List ByteArray) (v80 : Int) (v81 : List Int) (v85 : Int) : Option ((List ByteArray) × ((List Int) × Int)) :=
  if (0 < v80) then ((make_Text (v81, v85) 9).bind fun u92 => (lapp v74 ([u92.1] : List ByteArray)).bind fun u110 => rec69 u110 (w64 (v80 - 1)) u92.2.1 u92.2.2) else
 some (v74, (v81, v85))
def make_Records_L1 : Nat → (List ByteArray) → Int → (List Int) → Int → Option ((List ByteArray) × ((List Int) × Int))
  | 0, _, _, _, _ => none
  | n + 1, v74, v80, v81, v85 => make_Records_B1 (make_Records_L1 n) v74 v80 v81 v85
def make_Records (x0 : ((List Int) × Int)) : Option ((List ByteArray) × ((List Int) × Int)) :=
  (make_Deck_Next x0 6).bind fun u1 => make_Records_L1 big ([] : List ByteArray) u1.1 u1.2.1 u1.2.2

def make_Laid_J1 (z4095 : Int) (v4075 : Int) (v4076 : List (Int × Int × Int)) (v4080 : List ByteArray) (v4084 : List (List Int)) (v4088 : List Int) (v4092 : Int) : Option (Int × (List ByteArray) × (List (List Int)) × (Int × (List (Int × Int × Int))) × ((List Int) × Int)) :=
  some (z4095, v4080, v4084, (v4075, v4076), (v4088, v4092))
def make_Laid (x0 : ((List Int) × Int)) : Option (Int × (List ByteArray) × (List (List Int)) × (Int × (List (Int × Int × Int))) × ((List Int) × Int)) :=
  (make_Field x0).bind fun u3 => (make_Records u3.2).bind fun u10 => (make_Deck_Next u10.2 9).bind fun u4102 => (ref13_Encode u3.1 (w64 (1 + u4102.1)) u10.1).bind fun u4108 => (make_Laid_J1 u3.1) u4108.2.1.1 u4108.2.1.2 u10.1 u4108.1 u4102.2.1 u4102.2.2

def ref13_Digits (x0 : Int) : Option (Int × Int) :=
  (ref03_Check x0).bind fun u2 => if (u2 ≠ 0) then (some (0, u2)) else
(ref13_digits x0).bind fun u9 => some (u9, 0)

def ref04_SameRows_B1 (z39 : List (List Int)) (rec32 : Option Bool) (x42 : (List Int)) (i32 : Nat) : Option Bool :=
  (lidx z39 (i32 : Int)).bind fun u50 => (ref04_Same x42 u50).bind fun u58 => if ((!u58) = true) then (some false) else
 rec32
def ref04_SameRows_L1 (z39 : List (List Int)) : (List (List Int)) → Nat → Option Bool
  | [], i32 => some true
  | x42 :: xs, i32 => ref04_SameRows_B1 z39 (ref04_SameRows_L1 z39 xs (i32 + 1)) x42 i32 
def ref04_SameRows (x0 : (List (List Int))) (x1 : (List (List Int))) : Option Bool :=
  if ((x0.length : Int) ≠ (x1.length : Int)) then (some false) else
 ref04_SameRows_L1 x1 x0 0 

def ref13_Same_B1 (z38 : List (Int × Int × Int)) (rec30 : Option Bool) (x42 : (Int × Int × Int)) (i30 : Nat) : Option Bool :=
  (lidx z38 (i30 : Int)).bind fun u47 => if ((x42.1, x42.2.1, x42.2.2) ≠ (u47.1, u47.2.1, u47.2.2)) then (some false) else
 rec30
def ref13_Same_L1 (z38 : List (Int × Int × Int)) : (List (Int × Int × Int)) → Nat → Option Bool
  | [], i30 => some true
  | x42 :: xs, i30 => ref13_Same_B1 z38 (ref13_Same_L1 z38 xs (i30 + 1)) x42 i30 
def ref13_Same (x0 : (Int × (List (Int × Int × Int)))) (x1 : (Int × (List (Int × Int × Int)))) : Option Bool :=
  if ((x0.1 ≠ x1.1) ∨ ((x0.2.length : Int) ≠ (x1.2.length : Int))) then (some false) else
 ref13_Same_L1 x1.2 x0.2 0 

def ref03_In_B1 (z35 : Int) (rec27 : Option Bool) (x37 : Int) : Option Bool :=
  if ((x37 < 0) ∨ (z35 ≤ x37)) then (some false) else
 rec27
def ref03_In_L1 (z35 : Int) : (List Int) → Option Bool
  | [] => some true
  | x37 :: xs => ref03_In_B1 z35 (ref03_In_L1 z35 xs) x37 
def ref03_In (x0 : Int) (x1 : (List Int)) : Option Bool :=
  (ref03_Check x0).bind fun u2 => if (u2 ≠ 0) then (some false) else
 ref03_In_L1 x0 x1 

def ref13_Decode_J1 (z611 : List Int) (v608 : Int) : Option (ByteArray × Int) :=
  some ((ofB z611), 0)
def ref13_Decode_B2 (kx609 : Int → Option (ByteArray × Int)) (z640 : Int) (rec632 : Option (ByteArray × Int)) (x643 : Int) : Option (ByteArray × Int) :=
  if (x643 ≠ 0) then (some (ByteArray.empty, 2)) else
 rec632
def ref13_Decode_L2 (kx609 : Int → Option (ByteArray × Int)) (z640 : Int) : (List Int) → Option (ByteArray × Int)
  | [] => kx609 z640
  | x643 :: xs => ref13_Decode_B2 kx609 z640 (ref13_Decode_L2 kx609 z640 xs) x643 
def ref13_Decode_J3 (z567 : Int) (z568 : Int) (v554 : List Int) (v558 : List Int) (v564 : Int) : Option (ByteArray × Int) :=
  (lsub v554 (w64 (z567 * z568)) (v554.length : Int)).bind fun u569 => ref13_Decode_L2 (ref13_Decode_J1 v558) v564 u569 
def ref13_Decode_J4 (rec914 : (List Int) → Int → Int → Option (ByteArray × Int)) (z970 : Int) (z974 : List Int) (v966 : Int) (v967 : Int) : Option (ByteArray × Int) :=
  if (255 < v966) then (some (ByteArray.empty, 2)) else
(lapp z974 ([(wu8 v966)] : List Int)).bind fun u985 => rec914 u985 (w64 (z970 + 1)) v967
def ref13_Decode_B5 (kx968 : Int → Int → Option (ByteArray × Int)) (z1007 : Int) (z1008 : List Int) (z1010 : Int) (z1011 : Int) (rec1002 : Int → Int → Option (ByteArray × Int)) (v1003 : Int) (v1004 : Int) : Option (ByteArray × Int) :=
  if (0 ≤ v1004) then ((lidx z1008 (w64 ((w64 (z1007 * z1010)) + v1004))).bind fun u1017 => rec1002 (w64 ((w64 (v1003 * z1011)) + u1017)) (w64 (v1004 - 1))) else
 kx968 v1003 z1011
def ref13_Decode_L5 (kx968 : Int → Int → Option (ByteArray × Int)) (z1007 : Int) (z1008 : List Int) (z1010 : Int) (z1011 : Int) : Nat → Int → Int → Option (ByteArray × Int)
  | 0, _, _ => none
  | n + 1, v1003, v1004 => ref13_Decode_B5 kx968 z1007 z1008 z1010 z1011 (ref13_Decode_L5 kx968 z1007 z1008 z1010 z1011 n) v1003 v1004
def ref13_Decode_B6 (kx565 : (List Int) → (List Int) → Int → Option (ByteArray × Int)) (z925 : List Int) (z926 : Int) (z927 : Int) (rec914 : (List Int) → Int → Int → Option (ByteArray × Int)) (v915 : List Int) (v921 : Int) (v922 : Int) : Option (ByteArray × Int) :=
  if (v921 < z926) then (ref13_Decode_L5 (ref13_Decode_J4 rec914 v921 v915) v921 z925 z927 v922 big 0 (w64 (z927 - 1))) else
 kx565 z925 v915 v922
def ref13_Decode_L6 (kx565 : (List Int) → (List Int) → Int → Option (ByteArray × Int)) (z925 : List Int) (z926 : Int) (z927 : Int) : Nat → (List Int) → Int → Int → Option (ByteArray × Int)
  | 0, _, _, _ => none
  | n + 1, v915, v921, v922 => ref13_Decode_B6 kx565 z925 z926 z927 (ref13_Decode_L6 kx565 z925 z926 z927 n) v915 v921 v922
def ref13_Decode_J7 (z179 : Int) (v170 : List Int) (v176 : Int) : Option (ByteArray × Int) :=
  (ref13_digits v176).bind fun u180 => ref13_Decode_L6 (ref13_Decode_J3 z179 u180) v170 z179 u180 big ([] : List Int) 0 v176
def ref13_Decode_B8 (kx177 : (List Int) → Int → Option (ByteArray × Int)) (z1124 : Int) (z1128 : Int) (rec1112 : (List Int) → Option (ByteArray × Int)) (x1130 : (List Int)) (v1116 : List Int) : Option (ByteArray × Int) :=
  (if ((x1130.length : Int) ≠ z1124) then (some true) else (ref03_In z1128 x1130).bind fun u1161 => some (!u1161)).bind fun u1144 => if (u1144 = true) then (some (ByteArray.empty, 2)) else
(lapp v1116 x1130).bind fun u1156 => rec1112 u1156
def ref13_Decode_L8 (kx177 : (List Int) → Int → Option (ByteArray × Int)) (z1124 : Int) (z1128 : Int) : (List (List Int)) → (List Int) → Option (ByteArray × Int)
  | [], v1116 => kx177 v1116 z1128
  | x1130 :: xs, v1116 => ref13_Decode_B8 kx177 z1124 z1128 (ref13_Decode_L8 kx177 z1124 z1128 xs) x1130 v1116
def ref13_Decode (x0 : Int) (x1 : Int) (x2 : Int) (x3 : (List (List Int))) : Option (ByteArray × Int) :=
  (ref03_Check x0).bind fun u2 => if (u2 ≠ 0) then (some (ByteArray.empty, u2)) else
 if ((((x1 < 1) ∨ (64 < x1)) ∨ (x2 < 0)) ∨ (1024 < x2)) then (some (ByteArray.empty, 1)) else
(ref13_need x0 x1 x2).bind fun u24 => if ((x3.length : Int) ≠ u24) then (some (ByteArray.empty, 2)) else
 ref13_Decode_L8 (ref13_Decode_J7 x2) x1 x0 x3 ([] : List Int)

def law13_LayoutDoes_B1 (rec13150 : Int → Int → Int → Int → Int → Option Bool) (z13252 : Int) (z13254 : Int) (z13256 : Int) (z13258 : Int) (z13259 : Int) (z13261 : Int) (z13262 : Int) (rec13234 : Option Bool) (x13269 : (List (List Int))) : Option Bool :=
  (layout_Decode z13256 z13252 z13254 x13269).bind fun u13277 => (ref13_Decode z13256 z13252 z13254 x13269).bind fun u13281 => if ((u13277.1 ≠ u13281.1) ∨ (u13277.2 ≠ u13281.2)) then (some false) else
 rec13234
def law13_LayoutDoes_L1 (rec13150 : Int → Int → Int → Int → Int → Option Bool) (z13252 : Int) (z13254 : Int) (z13256 : Int) (z13258 : Int) (z13259 : Int) (z13261 : Int) (z13262 : Int) : (List (List (List Int))) → Option Bool
  | [] => rec13150 z13256 z13258 z13259 z13261 z13262
  | x13269 :: xs => law13_LayoutDoes_B1 rec13150 z13252 z13254 z13256 z13258 z13259 z13261 z13262 (law13_LayoutDoes_L1 rec13150 z13252 z13254 z13256 z13258 z13259 z13261 z13262 xs) x13269 
def law13_LayoutDoes_B2 (rec12763 : Int → Int → Int → Int → Int → Option Bool) (z13163 : List (List Int)) (z13167 : List (List Int)) (z13169 : List (List Int)) (z13172 : Int) (rec13150 : Int → Int → Int → Int → Int → Option Bool) (x13181 : Int) (v13154 : Int) (v13155 : Int) (v13156 : Int) (v13157 : Int) (v13158 : Int) : Option Bool :=
  (lsub z13169 0 (min (z13169.length : Int) 1)).bind fun u13186 => (lsub z13163 0 (min (z13163.length : Int) 2)).bind fun u13192 => law13_LayoutDoes_L1 rec13150 z13172 x13181 v13154 v13155 v13156 v13157 v13158 ([z13167, z13169, z13163, u13186, u13192] : List (List (List Int))) 
def law13_LayoutDoes_L2 (rec12763 : Int → Int → Int → Int → Int → Option Bool) (z13163 : List (List Int)) (z13167 : List (List Int)) (z13169 : List (List Int)) (z13172 : Int) : (List Int) → Int → Int → Int → Int → Int → Option Bool
  | [], v13154, v13155, v13156, v13157, v13158 => rec12763 v13154 v13155 v13156 v13157 v13158
  | x13181 :: xs, v13154, v13155, v13156, v13157, v13158 => law13_LayoutDoes_B2 rec12763 z13163 z13167 z13169 z13172 (law13_LayoutDoes_L2 rec12763 z13163 z13167 z13169 z13172 xs) x13181 v13154 v13155 v13156 v13157 v13158
def law13_LayoutDoes_J3 (rec12763 : Int → Int → Int → Int → Int → Option Bool) (z13008 : List (List Int)) (z13010 : Int) (z13012 : List (List Int)) (z13014 : List (List Int)) (z13017 : Int) (v12999 : Int) (v13000 : Int) (v13001 : Int) (v13002 : Int) (v13003 : Int) : Option Bool :=
  (make_Mod z13010 12).bind fun u13023 => law13_LayoutDoes_L2 rec12763 z13008 z13012 z13014 z13017 ([z13010, u13023] : List Int) v12999 v13000 v13001 v13002 v13003
def law13_LayoutDoes_B4 (kx13004 : Int → Int → Int → Int → Int → Option Bool) (z13399 : Int) (z13401 : Int) (z13403 : Int) (z13404 : Int) (z13406 : Int) (z13407 : Int) (rec13378 : Option Bool) (x13412 : (List ByteArray)) : Option Bool :=
  (layout_Encode z13401 z13399 x13412).bind fun u13420 => (ref13_Encode z13401 z13399 x13412).bind fun u13435 => (if (u13420.2.2 ≠ u13435.2.2) then (some true) else (ref04_SameRows u13420.1 u13435.1).bind fun u13483 => some (!u13483)).bind fun u13456 => (if (u13456 = true) then (some true) else (ref13_Same u13420.2.1 u13435.2.1).bind fun u13477 => some (!u13477)).bind fun u13467 => if (u13467 = true) then (some false) else
 rec13378
def law13_LayoutDoes_L4 (kx13004 : Int → Int → Int → Int → Int → Option Bool) (z13399 : Int) (z13401 : Int) (z13403 : Int) (z13404 : Int) (z13406 : Int) (z13407 : Int) : (List (List ByteArray)) → Option Bool
  | [] => kx13004 z13401 z13403 z13404 z13406 z13407
  | x13412 :: xs => law13_LayoutDoes_B4 kx13004 z13399 z13401 z13403 z13404 z13406 z13407 (law13_LayoutDoes_L4 kx13004 z13399 z13401 z13403 z13404 z13406 z13407 xs) x13412 
def law13_LayoutDoes_B5 (rec12011 : Int → Int → Int → Int → Option Bool) (z12779 : List (List Int)) (z12781 : Int) (z12782 : List ByteArray) (z12783 : List (List Int)) (z12784 : List ByteArray) (z12785 : List (List Int)) (rec12763 : Int → Int → Int → Int → Int → Option Bool) (x12793 : Int) (v12771 : Int) (v12772 : Int) (v12773 : Int) (v12774 : Int) (v12775 : Int) : Option Bool :=
  law13_LayoutDoes_L4 (law13_LayoutDoes_J3 rec12763 z12779 z12781 z12783 z12785 x12793) x12793 v12771 v12772 v12773 v12774 v12775 ([z12782, z12784] : List (List ByteArray)) 
def law13_LayoutDoes_L5 (rec12011 : Int → Int → Int → Int → Option Bool) (z12779 : List (List Int)) (z12781 : Int) (z12782 : List ByteArray) (z12783 : List (List Int)) (z12784 : List ByteArray) (z12785 : List (List Int)) : (List Int) → Int → Int → Int → Int → Int → Option Bool
  | [], v12771, v12772, v12773, v12774, v12775 => rec12011 v12772 v12773 v12774 v12775
  | x12793 :: xs, v12771, v12772, v12773, v12774, v12775 => law13_LayoutDoes_B5 rec12011 z12779 z12781 z12782 z12783 z12784 z12785 (law13_LayoutDoes_L5 rec12011 z12779 z12781 z12782 z12783 z12784 z12785 xs) x12793 v12771 v12772 v12773 v12774 v12775
def law13_LayoutDoes_B6 (z12025 : List (List Int)) (z12026 : Int) (z12027 : Int) (z12028 : List ByteArray) (z12029 : List (List Int)) (z12030 : List ByteArray) (z12031 : List (List Int)) (rec12011 : Int → Int → Int → Int → Option Bool) (x12037 : Int) (v12019 : Int) (v12020 : Int) (v12021 : Int) (v12022 : Int) : Option Bool :=
  (layout_Digits x12037).bind fun u12043 => (ref13_Digits x12037).bind fun u12047 => if ((u12043.1 ≠ u12047.1) ∨ (u12043.2 ≠ u12047.2)) then (some false) else
(make_Mod z12026 9).bind fun u12058 => law13_LayoutDoes_L5 rec12011 z12025 z12027 z12028 z12029 z12030 z12031 ([z12026, (w64 (1 + u12058)), v12020] : List Int) x12037 v12019 v12020 v12021 v12022
def law13_LayoutDoes_L6 (z12025 : List (List Int)) (z12026 : Int) (z12027 : Int) (z12028 : List ByteArray) (z12029 : List (List Int)) (z12030 : List ByteArray) (z12031 : List (List Int)) : (List Int) → Int → Int → Int → Int → Option Bool
  | [], v12019, v12020, v12021, v12022 => some true
  | x12037 :: xs, v12019, v12020, v12021, v12022 => law13_LayoutDoes_B6 z12025 z12026 z12027 z12028 z12029 z12030 z12031 (law13_LayoutDoes_L6 z12025 z12026 z12027 z12028 z12029 z12030 z12031 xs) x12037 v12019 v12020 v12021 v12022
def law13_LayoutDoes_J7 (z8277 : Int) (z8278 : Int) (z8279 : List ByteArray) (z8280 : List (List Int)) (z8281 : List ByteArray) (z8282 : List (List Int)) (z8283 : Int) (z8285 : Int) (z8286 : Int) (v8264 : List (List Int)) (v8270 : List Int) (v8274 : Int) : Option Bool :=
  law13_LayoutDoes_L6 v8264 z8277 z8278 z8279 z8280 z8281 z8282 ([z8286, z8285, 257] : List Int) v8274 z8283 z8285 z8286
def law13_LayoutDoes_J8 (kx8275 : (List (List Int)) → (List Int) → Int → Option Bool) (z17572 : Int) (z17577 : List (List Int)) (v17553 : List Int) (v17559 : List Int) (v17563 : Int) : Option Bool :=
  (lidx z17577 z17572).bind fun u17578 => (lupd z17577 z17572 v17553).bind fun u17591 => kx8275 u17591 v17559 v17563
def law13_LayoutDoes_J9 (z45 : List Int) (z46 : Int) (z47 : Int) (z48 : List ByteArray) (z49 : List (List Int)) (v41 : Int) (v42 : Int) : Option Bool :=
  (make_Few z45).bind fun u50 => (if (((!u50) = true) ∨ (1500 < v41)) then (some true) else (law13_small z49).bind fun u21639 => some (!u21639)).bind fun u64 => if (u64 = true) then (some true) else
(make_New z45).bind fun u72 => (make_Laid u72).bind fun u80 => (lapp ([] : List (List Int)) u80.2.2.1).bind fun u107 => if (0 < (u107.length : Int)) then ((make_Deck_Next u80.2.2.2.2 (u107.length : Int)).bind fun u13490 => (lidx u107 u13490.1).bind fun u13497 => (lapp ([] : List Int) u13497).bind fun u13510 => (make_Deck_Next u13490.2 (u13510.length : Int)).bind fun u17597 => (lidx u13510 u17597.1).bind fun u17603 => (make_Deck_Next u17597.2 3).bind fun u17607 => (lidx u13510 u17597.1).bind fun u17613 => (lupd u13510 u17597.1 (w64 (u17603 + (w64 (u17607.1 - 1))))).bind fun u17617 => (law13_LayoutDoes_J8 (law13_LayoutDoes_J7 z46 z47 z48 z49 u80.2.1 u80.2.2.1 u80.2.2.2.1.1 u80.1 v42) u13490.1 u107) u17617 u17607.2.1 u17607.2.2) else
(law13_LayoutDoes_J7 z46 z47 z48 z49 u80.2.1 u80.2.2.1 u80.2.2.2.1.1 u80.1 v42) u107 u80.2.2.2.2.1 u80.2.2.2.2.2
def law13_LayoutDoes_B10 (kx43 : Int → Int → Option Bool) (z21669 : Int) (rec21656 : Int → Option Bool) (x21671 : ByteArray) (v21660 : Int) : Option Bool :=
  rec21656 (w64 (v21660 + (w64 (1 + (x21671.size : Int)))))
def law13_LayoutDoes_L10 (kx43 : Int → Int → Option Bool) (z21669 : Int) : (List ByteArray) → Int → Option Bool
  | [], v21660 => kx43 v21660 z21669
  | x21671 :: xs, v21660 => law13_LayoutDoes_B10 kx43 z21669 (law13_LayoutDoes_L10 kx43 z21669 xs) x21671 v21660
def law13_LayoutDoes (x0 : (List Int)) (x1 : Int) (x2 : Int) (x3 : Int) (x4 : (List ByteArray)) (x5 : (List (List Int))) : Option Bool :=
  (law13_sane).bind fun u2 => if ((!u2) = true) then (some false) else
 law13_LayoutDoes_L10 (law13_LayoutDoes_J9 x0 x2 x3 x4 x5) x1 x4 0

def law13_LayoutBack_B1 (z199 : Int) (z200 : List (List Int)) (z203 : Int) (z204 : List (Int × Int × Int)) (z205 : Int) (rec193 : Option Bool) (x209 : ByteArray) (i193 : Nat) : Option Bool :=
  (lidx z204 (i193 : Int)).bind fun u214 => (layout_Record z205 (z203, z204) z200 (i193 : Int)).bind fun u220 => (lsub z200 u214.1 (w64 (u214.1 + u214.2.1))).bind fun u224 => (layout_Decode z205 z199 u214.2.2 u224).bind fun u230 => if (((((u220.2 ≠ 0) ∨ (u230.2 ≠ 0)) ∨ (u220.1 ≠ x209)) ∨ (u230.1 ≠ x209)) ∨ (u214.2.2 ≠ (x209.size : Int))) then (some false) else
 rec193
def law13_LayoutBack_L1 (z199 : Int) (z200 : List (List Int)) (z203 : Int) (z204 : List (Int × Int × Int)) (z205 : Int) : (List ByteArray) → Nat → Option Bool
  | [], i193 => some true
  | x209 :: xs, i193 => law13_LayoutBack_B1 z199 z200 z203 z204 z205 (law13_LayoutBack_L1 z199 z200 z203 z204 z205 xs (i193 + 1)) x209 i193 
def law13_LayoutBack_J2 (z136 : List ByteArray) (z137 : Int) (z138 : List (List Int)) (z139 : List (Int × Int × Int)) (v131 : Int) (v132 : Int) (v133 : Int) : Option Bool :=
  law13_LayoutBack_L1 z137 z138 v131 z139 v132 z136 0 
def law13_LayoutBack_B3 (kx134 : Int → Int → Int → Option Bool) (z280 : Int) (z283 : Int) (z285 : Int) (z287 : Int) (rec273 : Option Bool) (x289 : (List Int)) : Option Bool :=
  if ((x289.length : Int) ≠ z280) then (some false) else
 rec273
def law13_LayoutBack_L3 (kx134 : Int → Int → Int → Option Bool) (z280 : Int) (z283 : Int) (z285 : Int) (z287 : Int) : (List (List Int)) → Option Bool
  | [] => kx134 z283 z285 z287
  | x289 :: xs => law13_LayoutBack_B3 kx134 z280 z283 z285 z287 (law13_LayoutBack_L3 kx134 z280 z283 z285 z287 xs) x289 
def law13_LayoutBack (x0 : (List Int)) (x1 : Int) : Option Bool :=
  (law13_sane).bind fun u1 => if ((!u1) = true) then (some false) else
(make_Few x0).bind fun u8 => if ((!u8) = true) then (some true) else
(make_New x0).bind fun u15 => (make_Field u15).bind fun u23 => (make_Records u23.2).bind fun u30 => (layout_Encode u23.1 (w64 (1 + (w64 (Int.tmod x1 20)))) u30.1).bind fun u52 => (if ((u52.2.2 ≠ 0) ∨ ((u52.2.1.2.length : Int) ≠ (u30.1.length : Int))) then (some true) else (layout_Check u52.2.1 (u52.1.length : Int)).bind fun u302 => some (decide (u302 ≠ 0))).bind fun u77 => if (u77 = true) then (some false) else
 law13_LayoutBack_L3 (law13_LayoutBack_J2 u30.1 (w64 (1 + (w64 (Int.tmod x1 20)))) u52.1 u52.2.1.2) (w64 (1 + (w64 (Int.tmod x1 20)))) u52.2.1.1 u23.1 u30.2.2 u52.1 

def law13_LayoutWidths_B1 (z229 : Int) (z230 : Int) (z234 : List (Int × Int × Int)) (z236 : List (Int × Int × Int)) (z238 : List (Int × Int × Int)) (rec223 : Option Bool) (x243 : ByteArray) (i223 : Nat) : Option Bool :=
  (lidx z236 (i223 : Int)).bind fun u248 => (lidx z238 (i223 : Int)).bind fun u253 => (if (u253.2.1 < u248.2.1) then (some true) else (lidx z234 (i223 : Int)).bind fun u318 => (lidx z238 (i223 : Int)).bind fun u323 => some (decide (u323.2.1 < u318.2.1))).bind fun u270 => (if (u270 = true) then (some true) else (lidx z238 (i223 : Int)).bind fun u311 => some (decide ((max 1 (w64 (z230 * (x243.size : Int)))) ≤ (w64 ((w64 (u311.2.1 - 1)) * z229))))).bind fun u282 => (if (u282 = true) then (some true) else (lidx z238 (i223 : Int)).bind fun u304 => some (decide ((w64 (u304.2.1 * z229)) < (w64 (z230 * (x243.size : Int)))))).bind fun u294 => if (u294 = true) then (some false) else
 rec223
def law13_LayoutWidths_L1 (z229 : Int) (z230 : Int) (z234 : List (Int × Int × Int)) (z236 : List (Int × Int × Int)) (z238 : List (Int × Int × Int)) : (List ByteArray) → Nat → Option Bool
  | [], i223 => some true
  | x243 :: xs, i223 => law13_LayoutWidths_B1 z229 z230 z234 z236 z238 (law13_LayoutWidths_L1 z229 z230 z234 z236 z238 xs (i223 + 1)) x243 i223 
def law13_LayoutWidths (x0 : (List Int)) (x1 : Int) (x2 : Int) : Option Bool :=
  (law13_sane).bind fun u1 => if ((!u1) = true) then (some false) else
(make_Few x0).bind fun u8 => if ((!u8) = true) then (some true) else
(make_New x0).bind fun u15 => (make_Field u15).bind fun u23 => (make_Records u23.2).bind fun u30 => (layout_Encode u23.1 (w64 (1 + (w64 (Int.tmod x1 30)))) u30.1).bind fun u52 => (layout_Encode u23.1 (w64 ((w64 (1 + (w64 (Int.tmod x1 30)))) + (w64 (Int.tmod x2 30)))) u30.1).bind fun u67 => (layout_Encode 257 (w64 (1 + (w64 (Int.tmod x1 30)))) u30.1).bind fun u82 => (layout_Digits u23.1).bind fun u97 => if (((((((u52.2.2 ≠ 0) ∨ (u67.2.2 ≠ 0)) ∨ (u82.2.2 ≠ 0)) ∨ (u97.2 ≠ 0)) ∨ ((u52.2.1.2.length : Int) ≠ (u30.1.length : Int))) ∨ ((u67.2.1.2.length : Int) ≠ (u30.1.length : Int))) ∨ ((u82.2.1.2.length : Int) ≠ (u30.1.length : Int))) then (some false) else
 law13_LayoutWidths_L1 (w64 (1 + (w64 (Int.tmod x1 30)))) u97.1 u82.2.1.2 u67.2.1.2 u52.2.1.2 u30.1 0 

def law13_LayoutMore_J1 (z4199 : List (List Int)) (z4200 : ByteArray) (z4201 : List ByteArray) (z4202 : List (List Int)) (z4203 : List (Int × Int × Int)) (v4193 : Int) (v4194 : Int) (v4195 : Int) (v4196 : Int) : Option Bool :=
  (lidx z4203 (z4201.length : Int)).bind fun u4206 => (layout_Record v4195 (v4193, z4203) z4199 (z4201.length : Int)).bind fun u4212 => (if ((u4212.2 = 0) ∧ (u4212.1 = z4200)) then ((lsub z4199 0 (z4202.length : Int)).bind fun u4250 => (ref04_SameRows u4250 z4202).bind fun u4256 => some u4256) else some false).bind fun u4232 => some (decide ((((u4232 = true) ∧ (u4206.1 = (z4202.length : Int))) ∧ ((w64 (u4206.1 + u4206.2.1)) = (z4199.length : Int))) ∧ (u4206.2.2 = (z4200.size : Int))))
def law13_LayoutMore_B2 (kx4197 : Int → Int → Int → Int → Option Bool) (z4297 : Int) (z4298 : List (Int × Int × Int)) (z4299 : Int) (z4300 : Int) (z4302 : Int) (rec4285 : Option Bool) (x4304 : (Int × Int × Int)) (i4285 : Nat) : Option Bool :=
  (lidx z4298 (i4285 : Int)).bind fun u4310 => if ((u4310.1, u4310.2.1, u4310.2.2) ≠ (x4304.1, x4304.2.1, x4304.2.2)) then (some false) else
 rec4285
def law13_LayoutMore_L2 (kx4197 : Int → Int → Int → Int → Option Bool) (z4297 : Int) (z4298 : List (Int × Int × Int)) (z4299 : Int) (z4300 : Int) (z4302 : Int) : (List (Int × Int × Int)) → Nat → Option Bool
  | [], i4285 => kx4197 z4297 z4299 z4300 z4302
  | x4304 :: xs, i4285 => law13_LayoutMore_B2 kx4197 z4297 z4298 z4299 z4300 z4302 (law13_LayoutMore_L2 kx4197 z4297 z4298 z4299 z4300 z4302 xs (i4285 + 1)) x4304 i4285 
def law13_LayoutMore_J3 (z4118 : ByteArray) (z4119 : List ByteArray) (z4120 : List (List Int)) (z4121 : Int) (z4122 : List (Int × Int × Int)) (z4123 : Int) (z4125 : Int) (v4106 : Int) (v4107 : List (Int × Int × Int)) (v4111 : List (List Int)) (v4115 : Int) : Option Bool :=
  if (((v4115 ≠ 0) ∨ ((v4111.length : Int) ≤ (z4120.length : Int))) ∨ ((v4107.length : Int) ≠ (w64 ((z4119.length : Int) + 1)))) then (some false) else
 law13_LayoutMore_L2 (law13_LayoutMore_J1 v4111 z4118 z4119 z4120 v4107) v4106 v4107 z4121 z4123 z4125 z4122 0 
def law13_LayoutMore (x0 : (List Int)) (x1 : ByteArray) : Option Bool :=
  (law13_sane).bind fun u1 => if ((!u1) = true) then (some false) else
(make_Few x0).bind fun u8 => if (((!u8) = true) ∨ (40 < (x1.size : Int))) then (some true) else
(make_New x0).bind fun u19 => (make_Laid u19).bind fun u27 => if (u27.2.2.2.1.1 = 0) then (some true) else
(lapp ([] : List ByteArray) u27.2.1).bind fun u4324 => (lapp u4324 ([x1] : List ByteArray)).bind fun u4333 => (layout_Encode u27.1 u27.2.2.2.1.1 u4333).bind fun u4340 => (law13_LayoutMore_J3 x1 u27.2.1 u27.2.2.1 u27.2.2.2.1.1 u27.2.2.2.1.2 u27.1 u27.2.2.2.2.2) u4340.2.1.1 u4340.2.1.2 u4340.1 u4340.2.2

def law13_LayoutDigits_J1 (z216 : Int) (v210 : Int) (v211 : Int) (v212 : Int) (v213 : Int) : Option Bool :=
  some (decide (v210 = (w64 z216)))
def law13_LayoutDigits_B2 (kx214 : Int → Int → Int → Int → Option Bool) (z249 : List (List Int)) (z250 : Int) (z252 : Int) (z254 : Int) (rec243 : Int → Int → Option Bool) (v244 : Int) (v245 : Int) : Option Bool :=
  if (0 ≤ v245) then ((lidx z249 0).bind fun u259 => (lidx u259 v245).bind fun u267 => rec243 (w64 ((w64 (v244 * z252)) + u267)) (w64 (v245 - 1))) else
 kx214 v244 z250 z252 z254
def law13_LayoutDigits_L2 (kx214 : Int → Int → Int → Int → Option Bool) (z249 : List (List Int)) (z250 : Int) (z252 : Int) (z254 : Int) : Nat → Int → Int → Option Bool
  | 0, _, _ => none
  | n + 1, v244, v245 => law13_LayoutDigits_B2 kx214 z249 z250 z252 z254 (law13_LayoutDigits_L2 kx214 z249 z250 z252 z254 n) v244 v245
def law13_LayoutDigits_J3 (z76 : Int) (z77 : Int) (z78 : Int) (v70 : Int) (v71 : Int) (v72 : Int) (v73 : Int) : Option Bool :=
  (layout_Encode v72 z77 ([(ofB ([z76] : List Int))] : List ByteArray)).bind fun u96 => (if ((((((((z78 ≠ 0) ∨ (u96.2.2 ≠ 0)) ∨ (z77 < 1)) ∨ (8 < z77)) ∨ (v70 < 256)) ∨ (256 ≤ v71)) ∨ ((u96.1.length : Int) ≠ 1)) ∨ ((u96.2.1.2.length : Int) ≠ 1)) then (some true) else (lidx u96.1 0).bind fun u275 => some (decide ((u275.length : Int) ≠ z77))).bind fun u149 => if (u149 = true) then (some false) else
 law13_LayoutDigits_L2 (law13_LayoutDigits_J1 z76) u96.1 u96.2.1.1 v72 v73 big 0 (w64 (z77 - 1))
def law13_LayoutDigits_B4 (kx74 : Int → Int → Int → Int → Option Bool) (z305 : Int) (z307 : Int) (z309 : Int) (rec298 : Int → Int → Int → Option Bool) (v299 : Int) (v300 : Int) (v301 : Int) : Option Bool :=
  if ((v301 < z305) ∧ (v301 < 9)) then (rec298 (w64 (v299 * z307)) v299 (w64 (v301 + 1))) else
 kx74 v299 v300 z307 z309
def law13_LayoutDigits_L4 (kx74 : Int → Int → Int → Int → Option Bool) (z305 : Int) (z307 : Int) (z309 : Int) : Nat → Int → Int → Int → Option Bool
  | 0, _, _, _ => none
  | n + 1, v299, v300, v301 => law13_LayoutDigits_B4 kx74 z305 z307 z309 (law13_LayoutDigits_L4 kx74 z305 z307 z309 n) v299 v300 v301
def law13_LayoutDigits (x0 : (List Int)) (x1 : Int) : Option Bool :=
  (law13_sane).bind fun u1 => if ((!u1) = true) then (some false) else
(make_Few x0).bind fun u8 => if ((!u8) = true) then (some true) else
(make_New x0).bind fun u15 => (make_Field u15).bind fun u23 => (layout_Digits u23.1).bind fun u31 => law13_LayoutDigits_L4 (law13_LayoutDigits_J3 x1 u31.1 u31.2) u31.1 u23.1 u23.2.2 big 1 1 0

def slices_MaxFunc_LapiPlaceapiPlace_J1 (v76 : Int) (v77 : Int) (v78 : Int) (v79 : Int) (v80 : Int) (v81 : Int) : Option (Int × Int × Int) :=
  some (v76, v77, v78)
def slices_MaxFunc_LapiPlaceapiPlace_B2 (kx82 : Int → Int → Int → Int → Int → Int → Option (Int × Int × Int)) (z121 : List (Int × Int × Int)) (z122 : (Int × Int × Int) → (Int × Int × Int) → Option Int) (rec114 : Int → Int → Int → Int → Option (Int × Int × Int)) (v115 : Int) (v116 : Int) (v117 : Int) (v118 : Int) : Option (Int × Int × Int) :=
  if (v115 < (z121.length : Int)) then ((lidx z121 v115).bind fun u127 => (z122 u127 (v116, v117, v118)).bind fun u132 => if (0 < u132) then ((lidx z121 v115).bind fun u138 => rec114 (w64 (v115 + 1)) u138.1 u138.2.1 u138.2.2) else
 rec114 (w64 (v115 + 1)) v116 v117 v118) else
 kx82 v116 v117 v118 0 0 0
def slices_MaxFunc_LapiPlaceapiPlace_L2 (kx82 : Int → Int → Int → Int → Int → Int → Option (Int × Int × Int)) (z121 : List (Int × Int × Int)) (z122 : (Int × Int × Int) → (Int × Int × Int) → Option Int) : Nat → Int → Int → Int → Int → Option (Int × Int × Int)
  | 0, _, _, _, _ => none
  | n + 1, v115, v116, v117, v118 => slices_MaxFunc_LapiPlaceapiPlace_B2 kx82 z121 z122 (slices_MaxFunc_LapiPlaceapiPlace_L2 kx82 z121 z122 n) v115 v116 v117 v118
def slices_MaxFunc_LapiPlaceapiPlace_J3 (z8 : List (Int × Int × Int)) (z9 : (Int × Int × Int) → (Int × Int × Int) → Option Int) : Option (Int × Int × Int) :=
  (lidx z8 0).bind fun u10 => slices_MaxFunc_LapiPlaceapiPlace_L2 slices_MaxFunc_LapiPlaceapiPlace_J1 z8 z9 big 1 u10.1 u10.2.1 u10.2.2
def slices_MaxFunc_LapiPlaceapiPlace (x0 : (List (Int × Int × Int))) (x1 : (Int × Int × Int) → (Int × Int × Int) → Option Int) : Option (Int × Int × Int) :=
  if ((x0.length : Int) < 1) then (none) else
(slices_MaxFunc_LapiPlaceapiPlace_J3 x0 x1)

def layout_Most_f1 (x0 : (Int × Int × Int)) (x1 : (Int × Int × Int)) : Option Int :=
  if (x0.2.1 < x1.2.1) then (some (-1)) else
 some 1

def layout_Most (x0 : (Int × (List (Int × Int × Int)))) : Option Int :=
  if ((x0.2.length : Int) = 0) then (some 0) else
(slices_MaxFunc_LapiPlaceapiPlace x0.2 layout_Most_f1).bind fun u5 => some u5.2.1

def ref13_Most_B1 (rec22 : Int → Option Int) (x33 : (Int × Int × Int)) (i22 : Nat) (v26 : Int) : Option Int :=
  if (((i22 : Int) = 0) ∨ (v26 < x33.2.1)) then (rec22 x33.2.1) else
 rec22 v26
def ref13_Most_L1 : (List (Int × Int × Int)) → Nat → Int → Option Int
  | [], i22, v26 => some v26
  | x33 :: xs, i22, v26 => ref13_Most_B1 (ref13_Most_L1 xs (i22 + 1)) x33 i22 v26
def ref13_Most (x0 : (Int × (List (Int × Int × Int)))) : Option Int :=
  ref13_Most_L1 x0.2 0 0

def ref13_Check_J1 (z86 : Int) (v82 : Int) (v83 : Int) : Option Int :=
  if (v82 ≠ z86) then (some 2) else
 some 0
def ref13_Check_B2 (kx84 : Int → Int → Option Int) (z134 : Int) (rec124 : Int → Option Int) (x136 : (Int × Int × Int)) (v128 : Int) : Option Int :=
  if (((((x136.1 ≠ v128) ∨ (x136.2.1 < 1)) ∨ (1024 < x136.2.1)) ∨ (x136.2.2 < 0)) ∨ (1024 < x136.2.2)) then (some 2) else
 rec124 (w64 (v128 + x136.2.1))
def ref13_Check_L2 (kx84 : Int → Int → Option Int) (z134 : Int) : (List (Int × Int × Int)) → Int → Option Int
  | [], v128 => kx84 v128 z134
  | x136 :: xs, v128 => ref13_Check_B2 kx84 z134 (ref13_Check_L2 kx84 z134 xs) x136 v128
def ref13_Check (x0 : (Int × (List (Int × Int × Int)))) (x1 : Int) : Option Int :=
  if (((x0.1 < 1) ∨ (64 < x0.1)) ∨ (256 < (x0.2.length : Int))) then (some 2) else
 ref13_Check_L2 (ref13_Check_J1 x1) x0.1 x0.2 0

def layout_Asked_B1 (z83 : Int) (z84 : Int) (z85 : Int) (rec73 : (List Int) → Int → Option ((List Int) × Int)) (v74 : List Int) (v80 : Int) : Option ((List Int) × Int) :=
  if (v80 < z83) then ((lapp v74 ([(w64 (z84 + (min v80 (w64 (z85 - 1)))))] : List Int)).bind fun u100 => rec73 u100 (w64 (v80 + 1))) else
 some (v74, 0)
def layout_Asked_L1 (z83 : Int) (z84 : Int) (z85 : Int) : Nat → (List Int) → Int → Option ((List Int) × Int)
  | 0, _, _ => none
  | n + 1, v74, v80 => layout_Asked_B1 z83 z84 z85 (layout_Asked_L1 z83 z84 z85 n) v74 v80
def layout_Asked (x0 : (Int × (List (Int × Int × Int)))) (x1 : Int) (x2 : Int) : Option ((List Int) × Int) :=
  (layout_Check x0 x1).bind fun u2 => if (u2 ≠ 0) then (some (([] : List Int), u2)) else
 if ((x2 < 0) ∨ ((x0.2.length : Int) ≤ x2)) then (some (([] : List Int), 6)) else
(lidx x0.2 x2).bind fun u18 => (layout_Most x0).bind fun u24 => layout_Asked_L1 u24 u18.1 u18.2.1 big ([] : List Int) 0

def ref13_Asked_B1 (z87 : Int) (z88 : Int) (z90 : Int) (z91 : List (Int × Int × Int)) (rec77 : (List Int) → Int → Option ((List Int) × Int)) (v78 : List Int) (v84 : Int) : Option ((List Int) × Int) :=
  (ref13_Most (z90, z91)).bind fun u94 => if (v84 < u94) then ((lapp v78 ([(w64 (z87 + (min v84 (w64 (z88 - 1)))))] : List Int)).bind fun u107 => rec77 u107 (w64 (v84 + 1))) else
 some (v78, 0)
def ref13_Asked_L1 (z87 : Int) (z88 : Int) (z90 : Int) (z91 : List (Int × Int × Int)) : Nat → (List Int) → Int → Option ((List Int) × Int)
  | 0, _, _ => none
  | n + 1, v78, v84 => ref13_Asked_B1 z87 z88 z90 z91 (ref13_Asked_L1 z87 z88 z90 z91 n) v78 v84
def ref13_Asked (x0 : (Int × (List (Int × Int × Int)))) (x1 : Int) (x2 : Int) : Option ((List Int) × Int) :=
  (ref13_Check x0 x1).bind fun u2 => if (u2 ≠ 0) then (some (([] : List Int), u2)) else
 if ((x2 < 0) ∨ ((x0.2.length : Int) ≤ x2)) then (some (([] : List Int), 6)) else
(lidx x0.2 x2).bind fun u18 => ref13_Asked_L1 u18.1 u18.2.1 x0.1 x0.2 big ([] : List Int) 0

def ref13_Record (x0 : Int) (x1 : (Int × (List (Int × Int × Int)))) (x2 : (List (List Int))) (x3 : Int) : Option (ByteArray × Int) :=
  (ref13_Check x1 (x2.length : Int)).bind fun u3 => if (u3 ≠ 0) then (some (ByteArray.empty, u3)) else
 if ((x3 < 0) ∨ ((x1.2.length : Int) ≤ x3)) then (some (ByteArray.empty, 6)) else
(lidx x1.2 x3).bind fun u17 => (lsub x2 u17.1 (w64 (u17.1 + u17.2.1))).bind fun u23 => (ref13_Decode x0 x1.1 u17.2.2 u23).bind fun u29 => some (u29.1, u29.2)

def law13_LayoutReads_B1 (rec13285 : Int → Int → Int → Int → Int → Option Bool) (z13860 : Int) (z13864 : Int) (z13865 : List (Int × Int × Int)) (z13866 : Int) (z13869 : Int) (z13870 : Int) (z13872 : Int) (z13873 : Int) (rec13851 : Option Bool) (x13879 : (List (List Int))) : Option Bool :=
  (make_Mod z13860 7).bind fun u13887 => (layout_Record z13872 (z13864, z13865) x13879 u13887).bind fun u13891 => (make_Mod z13860 7).bind fun u13895 => (ref13_Record z13872 (z13864, z13865) x13879 u13895).bind fun u13899 => if ((u13891.1 ≠ u13899.1) ∨ (u13891.2 ≠ u13899.2)) then (some false) else
 rec13851
def law13_LayoutReads_L1 (rec13285 : Int → Int → Int → Int → Int → Option Bool) (z13860 : Int) (z13864 : Int) (z13865 : List (Int × Int × Int)) (z13866 : Int) (z13869 : Int) (z13870 : Int) (z13872 : Int) (z13873 : Int) : (List (List (List Int))) → Option Bool
  | [] => rec13285 z13866 z13869 z13870 z13872 z13873
  | x13879 :: xs => law13_LayoutReads_B1 rec13285 z13860 z13864 z13865 z13866 z13869 z13870 z13872 z13873 (law13_LayoutReads_L1 rec13285 z13860 z13864 z13865 z13866 z13869 z13870 z13872 z13873 xs) x13879 
def law13_LayoutReads_J2 (rec13285 : Int → Int → Int → Int → Int → Option Bool) (z13794 : List (List Int)) (z13796 : Int) (z13797 : List (List Int)) (z13799 : List (Int × Int × Int)) (v13785 : Int) (v13786 : Int) (v13787 : Int) (v13788 : Int) (v13789 : Int) (v13790 : Int) : Option Bool :=
  law13_LayoutReads_L1 rec13285 z13796 v13785 z13799 v13786 v13787 v13788 v13789 v13790 ([z13794, z13797] : List (List (List Int))) 
def law13_LayoutReads_B3 (rec14124 : Int → Int → Int → Int → Int → Int → Option Bool) (z14274 : Int) (z14276 : Int) (z14277 : List (Int × Int × Int)) (z14278 : Int) (z14281 : Int) (z14282 : Int) (z14284 : Int) (z14285 : Int) (rec14256 : Option Bool) (x14291 : Int) : Option Bool :=
  (layout_Asked (z14276, z14277) z14274 x14291).bind fun u14296 => (ref13_Asked (z14276, z14277) z14274 x14291).bind fun u14305 => (if (u14296.2 ≠ u14305.2) then (some true) else (ref04_Same u14296.1 u14305.1).bind fun u14354 => some (!u14354)).bind fun u14344 => if (u14344 = true) then (some false) else
 rec14256
def law13_LayoutReads_L3 (rec14124 : Int → Int → Int → Int → Int → Int → Option Bool) (z14274 : Int) (z14276 : Int) (z14277 : List (Int × Int × Int)) (z14278 : Int) (z14281 : Int) (z14282 : Int) (z14284 : Int) (z14285 : Int) : (List Int) → Option Bool
  | [] => rec14124 z14276 z14278 z14281 z14282 z14284 z14285
  | x14291 :: xs => law13_LayoutReads_B3 rec14124 z14274 z14276 z14277 z14278 z14281 z14282 z14284 z14285 (law13_LayoutReads_L3 rec14124 z14274 z14276 z14277 z14278 z14281 z14282 z14284 z14285 xs) x14291 
def law13_LayoutReads_B4 (kx13791 : Int → Int → Int → Int → Int → Int → Option Bool) (z14143 : Int) (z14147 : List (Int × Int × Int)) (rec14124 : Int → Int → Int → Int → Int → Int → Option Bool) (x14155 : Int) (v14132 : Int) (v14133 : Int) (v14134 : Int) (v14135 : Int) (v14136 : Int) (v14137 : Int) : Option Bool :=
  (layout_Check (v14132, z14147) x14155).bind fun u14160 => (ref13_Check (v14132, z14147) x14155).bind fun u14164 => if (u14160 ≠ u14164) then (some false) else
(make_Mod z14143 7).bind fun u14171 => law13_LayoutReads_L3 rec14124 x14155 v14132 z14147 v14133 v14134 v14135 v14136 v14137 ([z14143, u14171] : List Int) 
def law13_LayoutReads_L4 (kx13791 : Int → Int → Int → Int → Int → Int → Option Bool) (z14143 : Int) (z14147 : List (Int × Int × Int)) : (List Int) → Int → Int → Int → Int → Int → Int → Option Bool
  | [], v14132, v14133, v14134, v14135, v14136, v14137 => kx13791 v14132 v14133 v14134 v14135 v14136 v14137
  | x14155 :: xs, v14132, v14133, v14134, v14135, v14136, v14137 => law13_LayoutReads_B4 kx13791 z14143 z14147 (law13_LayoutReads_L4 kx13791 z14143 z14147 xs) x14155 v14132 v14133 v14134 v14135 v14136 v14137
def law13_LayoutReads_B5 (z13300 : List (List Int)) (z13301 : Int) (z13302 : Int) (z13303 : List (List Int)) (rec13285 : Int → Int → Int → Int → Int → Option Bool) (x13311 : (Int × (List (Int × Int × Int)))) (v13293 : Int) (v13294 : Int) (v13295 : Int) (v13296 : Int) (v13297 : Int) : Option Bool :=
  (layout_Most x13311).bind fun u13320 => (ref13_Most x13311).bind fun u13324 => if (u13320 ≠ u13324) then (some false) else
 law13_LayoutReads_L4 (law13_LayoutReads_J2 rec13285 z13300 z13302 z13303 x13311.2) z13302 x13311.2 ([z13301, (z13303.length : Int), (z13300.length : Int)] : List Int) x13311.1 v13293 v13294 v13295 v13296 v13297
def law13_LayoutReads_L5 (z13300 : List (List Int)) (z13301 : Int) (z13302 : Int) (z13303 : List (List Int)) : (List (Int × (List (Int × Int × Int)))) → Int → Int → Int → Int → Int → Option Bool
  | [], v13293, v13294, v13295, v13296, v13297 => some true
  | x13311 :: xs, v13293, v13294, v13295, v13296, v13297 => law13_LayoutReads_B5 z13300 z13301 z13302 z13303 (law13_LayoutReads_L5 z13300 z13301 z13302 z13303 xs) x13311 v13293 v13294 v13295 v13296 v13297
def law13_LayoutReads_J6 (z12218 : List (List Int)) (z12219 : Int) (z12220 : Int) (z12221 : List (List Int)) (z12222 : Int) (z12223 : Int) (z12224 : List (Int × Int × Int)) (z12225 : Int) (z12226 : Int) (z12227 : List (Int × Int × Int)) (v12205 : List (Int × Int × Int)) (v12211 : List Int) (v12215 : Int) : Option Bool :=
  law13_LayoutReads_L5 z12218 z12219 z12220 z12221 ([(z12226, z12227), (z12223, z12224), (z12222, v12205)] : List (Int × (List (Int × Int × Int)))) z12222 v12215 z12223 z12225 z12226
def law13_LayoutReads_J7 (z4091 : List (List Int)) (z4092 : Int) (z4093 : Int) (z4094 : List (List Int)) (z4095 : Int) (z4096 : List (Int × Int × Int)) (z4097 : Int) (z4098 : List Int) (z4099 : Int) (z4100 : Int) (z4101 : List (Int × Int × Int)) (v4082 : Int) (v4083 : List (Int × Int × Int)) : Option Bool :=
  if (0 < (v4083.length : Int)) then ((make_Deck_Next (z4098, z4099) (v4083.length : Int)).bind fun u14361 => (make_Deck_Next u14361.2 3).bind fun u14368 => if (u14368.1 = 0) then ((lidx v4083 u14361.1).bind fun u14377 => (make_Deck_Next u14368.2 9).bind fun u14381 => (lidx v4083 u14361.1).bind fun u14387 => (lupd v4083 u14361.1 (u14387.1, u14387.2.1, (w64 (u14377.2.2 + u14381.1)))).bind fun u14391 => (law13_LayoutReads_J6 z4091 z4092 z4093 z4094 v4082 z4095 z4096 z4097 z4100 z4101) u14391 u14381.2.1 u14381.2.2) else
 if (u14368.1 = 1) then ((lidx v4083 u14361.1).bind fun u18412 => (make_Deck_Next u14368.2 3).bind fun u18416 => (lidx v4083 u14361.1).bind fun u18422 => (lupd v4083 u14361.1 (u18422.1, (w64 (u18412.2.1 + (w64 (u18416.1 - 1)))), u18422.2.2)).bind fun u18426 => (law13_LayoutReads_J6 z4091 z4092 z4093 z4094 v4082 z4095 z4096 z4097 z4100 z4101) u18426 u18416.2.1 u18416.2.2) else
(lidx v4083 u14361.1).bind fun u22445 => (lidx v4083 u14361.1).bind fun u22450 => (lupd v4083 u14361.1 ((w64 (u22445.1 + 1)), u22450.2.1, u22450.2.2)).bind fun u22455 => (law13_LayoutReads_J6 z4091 z4092 z4093 z4094 v4082 z4095 z4096 z4097 z4100 z4101) u22455 u14368.2.1 u14368.2.2) else
(law13_LayoutReads_J6 z4091 z4092 z4093 z4094 v4082 z4095 z4096 z4097 z4100 z4101) v4083 z4098 z4099
def law13_LayoutReads (x0 : (List Int)) (x1 : (Int × (List (Int × Int × Int)))) (x2 : (List (List Int))) (x3 : Int) (x4 : Int) : Option Bool :=
  (law13_sane).bind fun u2 => if ((!u2) = true) then (some false) else
(make_Few x0).bind fun u9 => (if (((!u9) = true) ∨ (300 < (x1.2.length : Int))) then (some true) else (law13_small x2).bind fun u26483 => some (!u26483)).bind fun u23 => if (u23 = true) then (some true) else
(make_New x0).bind fun u31 => (make_Laid u31).bind fun u39 => (lapp ([] : List (Int × Int × Int)) u39.2.2.2.1.2).bind fun u22467 => (law13_LayoutReads_J7 x2 x3 x4 u39.2.2.1 u39.2.2.2.1.1 u39.2.2.2.1.2 u39.1 u39.2.2.2.2.1 u39.2.2.2.2.2 x1.1 x1.2) u39.2.2.2.1.1 u22467

def law13_LayoutAsked_J1 (z1131 : List ByteArray) (z1132 : Int) (v1126 : Int) (v1127 : Int) (v1128 : Int) : Option Bool :=
  some (decide ((0 < (z1131.length : Int)) ∨ (z1132 = 0)))
def law13_LayoutAsked_J2 (rec1669 : Int → Int → Int → Option Bool) (z1965 : ByteArray) (v1946 : List (List Int)) (v1952 : Int) (v1953 : Int) (v1954 : Int) (v1955 : Int) (v1956 : Int) (v1957 : Int) : Option Bool :=
  (layout_Decode v1956 v1955 v1954 v1946).bind fun u1974 => if ((u1974.2 ≠ 0) ∨ (u1974.1 ≠ z1965)) then (some false) else
 rec1669 v1955 v1956 v1957
def law13_LayoutAsked_B3 (kx1958 : (List (List Int)) → Int → Int → Int → Int → Int → Int → Option Bool) (z2141 : List (List Int)) (z2146 : Int) (z2147 : Int) (z2148 : Int) (z2149 : Int) (z2151 : Int) (z2153 : Int) (rec2127 : (List (List Int)) → Option Bool) (x2156 : Int) (i2127 : Nat) (v2131 : List (List Int)) : Option Bool :=
  if ((((x2156 < 0) ∨ ((z2141.length : Int) ≤ x2156)) ∨ (((i2127 : Int) < z2147) ∧ (x2156 ≠ (w64 (z2146 + (i2127 : Int)))))) ∨ ((z2147 ≤ (i2127 : Int)) ∧ (x2156 ≠ (w64 ((w64 (z2146 + z2147)) - 1))))) then (some false) else
 if ((i2127 : Int) < z2147) then ((lidx z2141 x2156).bind fun u2186 => (lapp v2131 ([u2186] : List (List Int))).bind fun u2201 => rec2127 u2201) else
 rec2127 v2131
def law13_LayoutAsked_L3 (kx1958 : (List (List Int)) → Int → Int → Int → Int → Int → Int → Option Bool) (z2141 : List (List Int)) (z2146 : Int) (z2147 : Int) (z2148 : Int) (z2149 : Int) (z2151 : Int) (z2153 : Int) : (List Int) → Nat → (List (List Int)) → Option Bool
  | [], i2127, v2131 => kx1958 v2131 z2146 z2147 z2148 z2149 z2151 z2153
  | x2156 :: xs, i2127, v2131 => law13_LayoutAsked_B3 kx1958 z2141 z2146 z2147 z2148 z2149 z2151 z2153 (law13_LayoutAsked_L3 kx1958 z2141 z2146 z2147 z2148 z2149 z2151 z2153 xs (i2127 + 1)) x2156 i2127 v2131
def law13_LayoutAsked_B4 (kx1129 : Int → Int → Int → Option Bool) (z1683 : List (List Int)) (z1684 : Int) (z1686 : List (Int × Int × Int)) (rec1669 : Int → Int → Int → Option Bool) (x1689 : ByteArray) (i1669 : Nat) (v1677 : Int) (v1678 : Int) (v1679 : Int) : Option Bool :=
  (lidx z1686 (i1669 : Int)).bind fun u1694 => (layout_Asked (v1677, z1686) (z1683.length : Int) (i1669 : Int)).bind fun u1700 => if (((u1700.2 ≠ 0) ∨ ((u1700.1.length : Int) ≠ z1684)) ∨ (z1684 < u1694.2.1)) then (some false) else
 law13_LayoutAsked_L3 (law13_LayoutAsked_J2 rec1669 x1689) z1683 u1694.1 u1694.2.1 u1694.2.2 v1677 v1678 v1679 u1700.1 0 ([] : List (List Int))
def law13_LayoutAsked_L4 (kx1129 : Int → Int → Int → Option Bool) (z1683 : List (List Int)) (z1684 : Int) (z1686 : List (Int × Int × Int)) : (List ByteArray) → Nat → Int → Int → Int → Option Bool
  | [], i1669, v1677, v1678, v1679 => kx1129 v1677 v1678 v1679
  | x1689 :: xs, i1669, v1677, v1678, v1679 => law13_LayoutAsked_B4 kx1129 z1683 z1684 z1686 (law13_LayoutAsked_L4 kx1129 z1683 z1684 z1686 xs (i1669 + 1)) x1689 i1669 v1677 v1678 v1679
def law13_LayoutAsked (x0 : (List Int)) : Option Bool :=
  (law13_sane).bind fun u1 => if ((!u1) = true) then (some false) else
(make_Few x0).bind fun u8 => if ((!u8) = true) then (some true) else
(make_New x0).bind fun u15 => (make_Laid u15).bind fun u23 => (layout_Most u23.2.2.2.1).bind fun u45 => law13_LayoutAsked_L4 (law13_LayoutAsked_J1 u23.2.1 u45) u23.2.2.1 u45 u23.2.2.2.1.2 u23.2.1 0 u23.2.2.2.1.1 u23.1 u23.2.2.2.2.2

end Go.Proofs.Ythgmcgldmahgeaa
