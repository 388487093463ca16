/- The lifted functions. Printed by wip/lift/drive.py. -/
import Derived.Test.YtbhmhindommaeaaP1
import Derived.Test.YtbhmhindommaeaaK19
namespace Go.Proofs.Ytbhmhindommaeaa
set_option linter.unusedVariables false
set_option synthInstance.maxSize 2000
set_option synthInstance.maxHeartbeats 400000

def cuckoo_Check_B1 (rec44 : Option Int) (x54 : (Int × Int)) : Option Int :=
  if ((((x54.1 < 0) ∨ (2147483647 ≤ x54.1)) ∨ (x54.2 < 0)) ∨ (2147483647 ≤ x54.2)) then (some 2) else
 rec44
def cuckoo_Check_L1 : (List (Int × Int)) → Option Int
  | [] => some 0
  | x54 :: xs => cuckoo_Check_B1 (cuckoo_Check_L1 xs) x54 
def cuckoo_Check (x0 : (Int × (List (Int × Int)))) : Option Int :=
  if ((((x0.1 < 1) ∨ (64 < x0.1)) ∨ ((x0.2.length : Int) < 1)) ∨ (4 < (x0.2.length : Int))) then (some 2) else
 cuckoo_Check_L1 x0.2 

def cuckoo_sets_B1 (z18 : Int) (z19 : Int) (rec13 : Int → Int → Option Int) (v14 : Int) (v15 : Int) : Option Int :=
  if (v15 ≤ (min z19 (w64 (z18 - z19)))) then ((nz v15).bind fun _ => if (4096 < (w64 (Int.tdiv (w64 (v14 * (w64 ((w64 (z18 - v15)) + 1)))) v15))) then (some (w64 (Int.tdiv (w64 (v14 * (w64 ((w64 (z18 - v15)) + 1)))) v15))) else
 rec13 (w64 (Int.tdiv (w64 (v14 * (w64 ((w64 (z18 - v15)) + 1)))) v15)) (w64 (v15 + 1))) else
 some v14
def cuckoo_sets_L1 (z18 : Int) (z19 : Int) : Nat → Int → Int → Option Int
  | 0, _, _ => none
  | n + 1, v14, v15 => cuckoo_sets_B1 z18 z19 (cuckoo_sets_L1 z18 z19 n) v14 v15
def cuckoo_sets (x0 : Int) (x1 : Int) : Option Int :=
  cuckoo_sets_L1 x0 x1 big 1 1

def cuckoo_homes_B1 (z67 : Int) (z70 : Int) (rec55 : (List Int) → Option (List Int)) (x72 : (Int × Int)) (v59 : List Int) : Option (List Int) :=
  (nz z70).bind fun _ => (lapp v59 ([(Int.tmod (Int.tmod (w64 ((w64 (x72.1 * z67)) + x72.2)) 2147483647) z70)] : List Int)).bind fun u87 => rec55 u87
def cuckoo_homes_L1 (z67 : Int) (z70 : Int) : (List (Int × Int)) → (List Int) → Option (List Int)
  | [], v59 => some v59
  | x72 :: xs, v59 => cuckoo_homes_B1 z67 z70 (cuckoo_homes_L1 z67 z70 xs) x72 v59
def cuckoo_homes (x0 : (Int × (List (Int × Int)))) (x1 : Int) : Option (List Int) :=
  cuckoo_homes_L1 x1 x0.1 x0.2 ([] : List Int)

def cuckoo_start_B1 (z4195 : Int) (z4196 : List (Int × Int)) (z4197 : List Int) (z4198 : List Bool) (rec4177 : (List (List Int)) → Option ((List (List Int)) × (List Int) × (List Bool))) (x4200 : Int) (v4185 : List (List Int)) : Option ((List (List Int)) × (List Int) × (List Bool)) :=
  (cuckoo_homes (z4195, z4196) x4200).bind fun u4210 => (lapp v4185 ([u4210] : List (List Int))).bind fun u4231 => rec4177 u4231
def cuckoo_start_L1 (z4195 : Int) (z4196 : List (Int × Int)) (z4197 : List Int) (z4198 : List Bool) : (List Int) → (List (List Int)) → Option ((List (List Int)) × (List Int) × (List Bool))
  | [], v4185 => some (v4185, z4197, z4198)
  | x4200 :: xs, v4185 => cuckoo_start_B1 z4195 z4196 z4197 z4198 (cuckoo_start_L1 z4195 z4196 z4197 z4198 xs) x4200 v4185
def cuckoo_start_J2 (z4099 : List Int) (z4100 : List (Int × Int)) (z4101 : List Bool) (v4090 : List Int) (v4096 : Int) : Option ((List (List Int)) × (List Int) × (List Bool)) :=
  cuckoo_start_L1 v4096 z4100 v4090 z4101 z4099 ([] : List (List Int))
def cuckoo_start_B3 (kx4097 : (List Int) → Int → Option ((List (List Int)) × (List Int) × (List Bool))) (z4265 : Int) (rec4251 : (List Int) → Option ((List (List Int)) × (List Int) × (List Bool))) (x4269 : Int) (i4251 : Nat) (v4255 : List Int) : Option ((List (List Int)) × (List Int) × (List Bool)) :=
  (lidx v4255 (i4251 : Int)).bind fun u4271 => (lupd v4255 (i4251 : Int) (-1)).bind fun u4276 => rec4251 u4276
def cuckoo_start_L3 (kx4097 : (List Int) → Int → Option ((List (List Int)) × (List Int) × (List Bool))) (z4265 : Int) : (List Int) → Nat → (List Int) → Option ((List (List Int)) × (List Int) × (List Bool))
  | [], i4251, v4255 => kx4097 v4255 z4265
  | x4269 :: xs, i4251, v4255 => cuckoo_start_B3 kx4097 z4265 (cuckoo_start_L3 kx4097 z4265 xs (i4251 + 1)) x4269 i4251 v4255
def cuckoo_start_J4 (z4041 : List Int) (z4042 : Int) (z4043 : List (Int × Int)) (v4027 : List Int) (v4033 : List Bool) : Option ((List (List Int)) × (List Int) × (List Bool)) :=
  cuckoo_start_L3 (cuckoo_start_J2 z4041 z4043 v4033) z4042 v4027 0 v4027
def cuckoo_start (x0 : (Int × (List (Int × Int)))) (x1 : (List Int)) : Option ((List (List Int)) × (List Int) × (List Bool)) :=
  (lmk x0.1 0).bind fun u4282 => (lmk x0.1 false).bind fun u4287 => (cuckoo_start_J4 x1 x0.1 x0.2) u4282 u4287

def cuckoo_placing_place_B1 (rec9999 : ((List (List Int)) × (List Int) × (List Bool)) → Int → (List Bool) → Option (Bool × (List Int) × (List Bool))) (z130 : Int) (z133 : List (List Int)) (z134 : List Bool) (rec112 : (List Bool) → (List Int) → Option (Bool × (List Int) × (List Bool))) (x136 : Int) (v116 : List Bool) (v122 : List Int) : Option (Bool × (List Int) × (List Bool)) :=
  (lidx v116 x136).bind fun u141 => (if (u141 = true) then (some true) else (lidx z134 x136).bind fun u226 => some u226).bind fun u153 => if (u153 = true) then (rec112 v116 v122) else
(lidx v122 x136).bind fun u161 => if (u161 < 0) then ((lidx v122 x136).bind fun u168 => (lupd v122 x136 z130).bind fun u173 => some (true, u173, v116)) else
(lidx v116 x136).bind fun u180 => (lupd v116 x136 true).bind fun u185 => (lidx v122 x136).bind fun u191 => (rec9999 (z133, v122, z134) u191 u185).bind fun u196 => if (u196.1 = true) then ((lidx u196.2.1 x136).bind fun u212 => (lupd u196.2.1 x136 z130).bind fun u217 => some (true, u217, u196.2.2)) else
 rec112 u196.2.2 u196.2.1
def cuckoo_placing_place_L1 (rec9999 : ((List (List Int)) × (List Int) × (List Bool)) → Int → (List Bool) → Option (Bool × (List Int) × (List Bool))) (z130 : Int) (z133 : List (List Int)) (z134 : List Bool) : (List Int) → (List Bool) → (List Int) → Option (Bool × (List Int) × (List Bool))
  | [], v116, v122 => some (false, v122, v116)
  | x136 :: xs, v116, v122 => cuckoo_placing_place_B1 rec9999 z130 z133 z134 (cuckoo_placing_place_L1 rec9999 z130 z133 z134 xs) x136 v116 v122
def cuckoo_placing_place_B2 (rec9999 : ((List (List Int)) × (List Int) × (List Bool)) → Int → (List Bool) → Option (Bool × (List Int) × (List Bool))) (x0 : ((List (List Int)) × (List Int) × (List Bool))) (x1 : Int) (x2 : (List Bool)) : Option (Bool × (List Int) × (List Bool)) :=
  (lidx x0.1 x1).bind fun u4 => cuckoo_placing_place_L1 rec9999 x1 x0.1 x0.2.2 u4 x2 x0.2.1

def cuckoo_placing_place_R : Nat → ((List (List Int)) × (List Int) × (List Bool)) → Int → (List Bool) → Option (Bool × (List Int) × (List Bool))
  | 0, _, _, _ => none
  | n + 1, x0, x1, x2 => cuckoo_placing_place_B2 (cuckoo_placing_place_R n) x0 x1 x2

def cuckoo_placing_place (x0 : ((List (List Int)) × (List Int) × (List Bool))) (x1 : Int) (x2 : (List Bool)) : Option (Bool × (List Int) × (List Bool)) := cuckoo_placing_place_R big x0 x1 x2

def cuckoo_placing_all_B1 (z45 : List (List Int)) (z46 : List Bool) (rec35 : Int → (List Int) → Option (Bool × (List Int))) (v36 : Int) (v37 : List Int) : Option (Bool × (List Int)) :=
  if (v36 < (z45.length : Int)) then ((lmk (v37.length : Int) false).bind fun u51 => (cuckoo_placing_place (z45, v37, z46) v36 u51).bind fun u61 => if ((!u61.1) = true) then (some (false, u61.2.1)) else
 rec35 (w64 (v36 + 1)) u61.2.1) else
 some (true, v37)
def cuckoo_placing_all_L1 (z45 : List (List Int)) (z46 : List Bool) : Nat → Int → (List Int) → Option (Bool × (List Int))
  | 0, _, _ => none
  | n + 1, v36, v37 => cuckoo_placing_all_B1 z45 z46 (cuckoo_placing_all_L1 z45 z46 n) v36 v37
def cuckoo_placing_all (x0 : ((List (List Int)) × (List Int) × (List Bool))) (x1 : Int) : Option (Bool × (List Int)) :=
  cuckoo_placing_all_L1 x0.1 x0.2.2 big x1 x0.2.1

def cuckoo_Failures_f1_B1 (rec9999 : (List Int) → Int → Int → Int → (Int × (List (Int × Int))) → Int → Int → Option (Int × Int)) (z150 : Int) (z151 : Int) (z152 : List (Int × Int)) (z153 : Int) (z154 : List Int) (rec140 : Int → Int → Int → Option (Int × Int)) (v145 : Int) (v146 : Int) (v147 : Int) : Option (Int × Int) :=
  if (v145 ≤ (w64 (z153 - (w64 (z150 - (z154.length : Int)))))) then ((lapp z154 ([v145] : List Int)).bind fun u167 => (rec9999 u167 (w64 (v145 + 1)) z150 v146 (z151, z152) v147 z153).bind fun u176 => rec140 (w64 (v145 + 1)) u176.1 u176.2) else
 some (v146, v147)
def cuckoo_Failures_f1_L1 (rec9999 : (List Int) → Int → Int → Int → (Int × (List (Int × Int))) → Int → Int → Option (Int × Int)) (z150 : Int) (z151 : Int) (z152 : List (Int × Int)) (z153 : Int) (z154 : List Int) : Nat → Int → Int → Int → Option (Int × Int)
  | 0, _, _, _ => none
  | n + 1, v145, v146, v147 => cuckoo_Failures_f1_B1 rec9999 z150 z151 z152 z153 z154 (cuckoo_Failures_f1_L1 rec9999 z150 z151 z152 z153 z154 n) v145 v146 v147
def cuckoo_Failures_f1_B2 (rec9999 : (List Int) → Int → Int → Int → (Int × (List (Int × Int))) → Int → Int → Option (Int × Int)) (x0 : (List Int)) (x1 : Int) (x2 : Int) (x3 : Int) (x4 : (Int × (List (Int × Int)))) (x5 : Int) (x6 : Int) : Option (Int × Int) :=
  if ((x0.length : Int) = x2) then ((if (x4.1 < x2) then (some true) else (cuckoo_start x4 x0).bind fun u70 => (cuckoo_placing_all u70 0).bind fun u100 => some (!u100.1)).bind fun u53 => if (u53 = true) then (some ((w64 (x3 + 1)), (w64 (x5 + 1)))) else
 some ((w64 (x3 + 1)), x5)) else
 cuckoo_Failures_f1_L1 rec9999 x2 x4.1 x4.2 x6 x0 big x1 x3 x5

def cuckoo_Failures_f1_R : Nat → (List Int) → Int → Int → Int → (Int × (List (Int × Int))) → Int → Int → Option (Int × Int)
  | 0, _, _, _, _, _, _, _ => none
  | n + 1, x0, x1, x2, x3, x4, x5, x6 => cuckoo_Failures_f1_B2 (cuckoo_Failures_f1_R n) x0 x1 x2 x3 x4 x5 x6

def cuckoo_Failures_f1 (x0 : (List Int)) (x1 : Int) (x2 : Int) (x3 : Int) (x4 : (Int × (List (Int × Int)))) (x5 : Int) (x6 : Int) : Option (Int × Int) := cuckoo_Failures_f1_R big x0 x1 x2 x3 x4 x5 x6

def cuckoo_Failures (x0 : (Int × (List (Int × Int)))) (x1 : Int) (x2 : Int) : Option (Int × Int × Int) :=
  (cuckoo_Check x0).bind fun u4 => if (u4 ≠ 0) then (some (0, 0, u4)) else
 if ((((x1 < 0) ∨ (1024 < x1)) ∨ (x2 < 0)) ∨ (x1 < x2)) then (some (0, 0, 1)) else
(cuckoo_sets x1 x2).bind fun u26 => if (4096 < u26) then (some (0, 0, 4)) else
(cuckoo_Failures_f1 ([] : List Int) 0 x2 0 x0 0 x1).bind fun u57 => some (u57.2, u57.1, 0)

def slices_IndexFunc_Lintint_B1 (z25 : Int → Option Bool) (rec18 : Option Int) (x28 : Int) (i18 : Nat) : Option Int :=
  (z25 x28).bind fun u33 => if (u33 = true) then (some (i18 : Int)) else
 rec18
def slices_IndexFunc_Lintint_L1 (z25 : Int → Option Bool) : (List Int) → Nat → Option Int
  | [], i18 => some (-1)
  | x28 :: xs, i18 => slices_IndexFunc_Lintint_B1 z25 (slices_IndexFunc_Lintint_L1 z25 xs (i18 + 1)) x28 i18 
def slices_IndexFunc_Lintint (x0 : (List Int)) (x1 : Int → Option Bool) : Option Int :=
  slices_IndexFunc_Lintint_L1 x1 x0 0 

def slices_ContainsFunc_Lintint (x0 : (List Int)) (x1 : Int → Option Bool) : Option Bool :=
  (slices_IndexFunc_Lintint x0 x1).bind fun u1 => some (decide (0 ≤ u1))

def cuckoo_item (x0 : Int) : Option Bool :=
  some (decide ((0 ≤ x0) ∧ (x0 < 2147483647)))

def cuckoo_asked_f1 (x0 : Int) : Option Bool :=
  (cuckoo_item x0).bind fun u1 => some (!u1)

def cuckoo_asked (x0 : (Int × (List (Int × Int)))) (x1 : (List Int)) : Option Int :=
  (cuckoo_Check x0).bind fun u2 => if (u2 ≠ 0) then (some u2) else
(slices_ContainsFunc_Lintint x1 cuckoo_asked_f1).bind fun u9 => if (u9 = true) then (some 1) else
 some 0

def slices_Clone_Lintint (x0 : (List Int)) : Option (List Int) :=
  (lapp ([] : List Int) x0).bind fun u11 => some u11

def cuckoo_placing_rest_J1 (z82 : Int) (z83 : List (List Int)) (z85 : List Bool) (v74 : List Int) : Option Bool :=
  (cuckoo_placing_all (z83, v74, z85) z82).bind fun u90 => some u90.1
def cuckoo_placing_rest_B2 (kx80 : (List Int) → Option Bool) (z138 : List Bool) (rec122 : (List Int) → Option Bool) (x140 : Int) (i122 : Nat) (v126 : List Int) : Option Bool :=
  (lidx z138 (i122 : Int)).bind fun u142 => if ((!u142) = true) then ((lidx v126 (i122 : Int)).bind fun u149 => (lupd v126 (i122 : Int) (-1)).bind fun u154 => rec122 u154) else
 rec122 v126
def cuckoo_placing_rest_L2 (kx80 : (List Int) → Option Bool) (z138 : List Bool) : (List Int) → Nat → (List Int) → Option Bool
  | [], i122, v126 => kx80 v126
  | x140 :: xs, i122, v126 => cuckoo_placing_rest_B2 kx80 z138 (cuckoo_placing_rest_L2 kx80 z138 xs (i122 + 1)) x140 i122 v126
def cuckoo_placing_rest (x0 : ((List (List Int)) × (List Int) × (List Bool))) (x1 : Int) : Option Bool :=
  (slices_Clone_Lintint x0.2.1).bind fun u3 => cuckoo_placing_rest_L2 (cuckoo_placing_rest_J1 x1 x0.1 x0.2.2) x0.2.2 u3 0 u3

def cuckoo_placing_first_B1 (rec172 : (List Int) → (List Bool) → Option (Bool × (List Int) × (List Bool))) (z288 : Int) (z289 : List (List Int)) (rec270 : (List Int) → (List Bool) → Option (Bool × (List Int) × (List Bool))) (x294 : Int) (v274 : List Int) (v280 : List Bool) : Option (Bool × (List Int) × (List Bool)) :=
  (lidx v280 x294).bind fun u299 => if (u299 = true) then (rec270 v274 v280) else
(lidx v280 x294).bind fun u307 => (lupd v280 x294 true).bind fun u312 => (lidx v274 x294).bind fun u318 => (lupd v274 x294 z288).bind fun u323 => (cuckoo_placing_rest (z289, u323, u312) (w64 (z288 + 1))).bind fun u329 => if (u329 = true) then (rec172 u323 u312) else
(lidx u312 x294).bind fun u336 => (lupd u312 x294 false).bind fun u341 => (lidx u323 x294).bind fun u347 => (lupd u323 x294 (-1)).bind fun u352 => rec270 u352 u341
def cuckoo_placing_first_L1 (rec172 : (List Int) → (List Bool) → Option (Bool × (List Int) × (List Bool))) (z288 : Int) (z289 : List (List Int)) : (List Int) → (List Int) → (List Bool) → Option (Bool × (List Int) × (List Bool))
  | [], v274, v280 => some (false, v274, v280)
  | x294 :: xs, v274, v280 => cuckoo_placing_first_B1 rec172 z288 z289 (cuckoo_placing_first_L1 rec172 z288 z289 xs) x294 v274 v280
def cuckoo_placing_first_B2 (z190 : List (List Int)) (rec172 : (List Int) → (List Bool) → Option (Bool × (List Int) × (List Bool))) (x193 : (List Int)) (i172 : Nat) (v176 : List Int) (v182 : List Bool) : Option (Bool × (List Int) × (List Bool)) :=
  cuckoo_placing_first_L1 rec172 (i172 : Int) z190 x193 v176 v182
def cuckoo_placing_first_L2 (z190 : List (List Int)) : (List (List Int)) → Nat → (List Int) → (List Bool) → Option (Bool × (List Int) × (List Bool))
  | [], i172, v176, v182 => some (true, v176, v182)
  | x193 :: xs, i172, v176, v182 => cuckoo_placing_first_B2 z190 (cuckoo_placing_first_L2 z190 xs (i172 + 1)) x193 i172 v176 v182
def cuckoo_placing_first (x0 : ((List (List Int)) × (List Int) × (List Bool))) : Option (Bool × (List Int) × (List Bool)) :=
  cuckoo_placing_first_L2 x0.1 x0.1 0 x0.2.1 x0.2.2

def cuckoo_Assign (x0 : (Int × (List (Int × Int)))) (x1 : (List Int)) : Option ((List Int) × Int) :=
  (cuckoo_asked x0 x1).bind fun u3 => if (u3 ≠ 0) then (some (([] : List Int), u3)) else
 if (x0.1 < (x1.length : Int)) then (some (([] : List Int), 4)) else
(cuckoo_start x0 x1).bind fun u13 => (cuckoo_placing_first u13).bind fun u43 => if ((!u43.1) = true) then (some (([] : List Int), 15)) else
 some (u43.2.1, 0)

def ref04_Same_B1 (z29 : List Int) (rec22 : Option Bool) (x32 : Int) (i22 : Nat) : Option Bool :=
  (lidx z29 (i22 : Int)).bind fun u37 => if (x32 ≠ u37) then (some false) else
 rec22
def ref04_Same_L1 (z29 : List Int) : (List Int) → Nat → Option Bool
  | [], i22 => some true
  | x32 :: xs, i22 => ref04_Same_B1 z29 (ref04_Same_L1 z29 xs (i22 + 1)) x32 i22 
def ref04_Same (x0 : (List Int)) (x1 : (List Int)) : Option Bool :=
  if ((x0.length : Int) ≠ (x1.length : Int)) then (some false) else
 ref04_Same_L1 x1 x0 0 

def cuckoo_Layout_B1 (rec201 : Int → (List (List Int)) → Int → Option ((List (List Int)) × Int)) (z318 : Int) (z321 : Int) (rec301 : (List (List Int)) → Option ((List (List Int)) × Int)) (x325 : Int) (v309 : List (List Int)) : Option ((List (List Int)) × Int) :=
  (lidx v309 x325).bind fun u330 => (if ((u330.length : Int) = 0) then (some true) else (lidx u330 (w64 ((u330.length : Int) - 1))).bind fun u383 => some (decide (u383 ≠ z318))).bind fun u344 => if (u344 = true) then ((lapp u330 ([z318] : List Int)).bind fun u364 => (lidx v309 x325).bind fun u367 => (lupd v309 x325 u364).bind fun u374 => rec301 u374) else
 rec301 v309
def cuckoo_Layout_L1 (rec201 : Int → (List (List Int)) → Int → Option ((List (List Int)) × Int)) (z318 : Int) (z321 : Int) : (List Int) → (List (List Int)) → Option ((List (List Int)) × Int)
  | [], v309 => rec201 (w64 (z318 + 1)) v309 z321
  | x325 :: xs, v309 => cuckoo_Layout_B1 rec201 z318 z321 (cuckoo_Layout_L1 rec201 z318 z321 xs) x325 v309
def cuckoo_Layout_B2 (z217 : Int) (z218 : List (Int × Int)) (rec201 : Int → (List (List Int)) → Int → Option ((List (List Int)) × Int)) (v206 : Int) (v207 : List (List Int)) (v214 : Int) : Option ((List (List Int)) × Int) :=
  if (v206 < z217) then ((cuckoo_homes (v214, z218) v206).bind fun u223 => cuckoo_Layout_L1 rec201 v206 v214 u223 v207) else
 some (v207, 0)
def cuckoo_Layout_L2 (z217 : Int) (z218 : List (Int × Int)) : Nat → Int → (List (List Int)) → Int → Option ((List (List Int)) × Int)
  | 0, _, _, _ => none
  | n + 1, v206, v207, v214 => cuckoo_Layout_B2 z217 z218 (cuckoo_Layout_L2 z217 z218 n) v206 v207 v214
def cuckoo_Layout (x0 : (Int × (List (Int × Int)))) (x1 : Int) : Option ((List (List Int)) × Int) :=
  (cuckoo_Check x0).bind fun u2 => if (u2 ≠ 0) then (some (([] : List (List Int)), u2)) else
 if ((x1 < 0) ∨ (1024 < x1)) then (some (([] : List (List Int)), 4)) else
(lmk x0.1 ([] : List Int)).bind fun u16 => cuckoo_Layout_L2 x1 x0.2 big 0 u16 x0.1

def ref04_SameRows_B1 (z39 : List (List Int)) (rec32 : Option Bool) (x42 : (List Int)) (i32 : Nat) : Option Bool :=
  (lidx z39 (i32 : Int)).bind fun u50 => (ref04_Same x42 u50).bind fun u58 => if ((!u58) = true) then (some false) else
 rec32
def ref04_SameRows_L1 (z39 : List (List Int)) : (List (List Int)) → Nat → Option Bool
  | [], i32 => some true
  | x42 :: xs, i32 => ref04_SameRows_B1 z39 (ref04_SameRows_L1 z39 xs (i32 + 1)) x42 i32 
def ref04_SameRows (x0 : (List (List Int))) (x1 : (List (List Int))) : Option Bool :=
  if ((x0.length : Int) ≠ (x1.length : Int)) then (some false) else
 ref04_SameRows_L1 x1 x0 0 

def law19_sane : Option Bool :=
  (cuckoo_Assign (2, ([(1, 0)] : List (Int × Int))) ([0, 2] : List Int)).bind fun u18 => (cuckoo_Assign (2, ([(1, 0)] : List (Int × Int))) ([1, 0] : List Int)).bind fun u38 => (cuckoo_Layout (2, ([(1, 0)] : List (Int × Int))) 3).bind fun u50 => (cuckoo_Failures (2, ([(1, 0)] : List (Int × Int))) 3 2).bind fun u61 => (if ((((u18.2 = 15) ∧ (u38.2 = 0)) ∧ (u50.2 = 0)) ∧ (u61.2.2 = 0)) then ((ref04_Same u38.1 ([1, 0] : List Int)).bind fun u182 => some u182) else some false).bind fun u91 => (if (u91 = true) then ((ref04_SameRows u50.1 ([([0, 2] : List Int), ([1] : List Int)] : List (List Int))).bind fun u168 => some u168) else some false).bind fun u128 => some (decide (((u128 = true) ∧ (u61.1 = 1)) ∧ (u61.2.1 = 3)))

def make_Few (x0 : (List Int)) : Option Bool :=
  some (decide ((x0.length : Int) ≤ 500))

def make_Mod (x0 : Int) (x1 : Int) : Option Int :=
  (nz x1).bind fun _ => (nz x1).bind fun _ => some (Int.tmod (w64 ((Int.tmod x0 x1) + x1)) x1)

def make_Deck_Next (x0 : ((List Int) × Int)) (x1 : Int) : Option (Int × ((List Int) × Int)) :=
  if ((x1 < 1) ∨ ((x0.1.length : Int) ≤ x0.2)) then (some (0, x0)) else
(lidx x0.1 x0.2).bind fun u8 => (make_Mod u8 x1).bind fun u13 => some (u13, (x0.1, (w64 (x0.2 + 1))))

def make_Hashing_J1 (v128 : List Int) (v132 : Int) (v133 : Int) (v134 : List (Int × Int)) (v140 : Int) : Option ((Int × (List (Int × Int))) × ((List Int) × Int)) :=
  some ((v133, v134), (v128, v132))
def make_Hashing_B2 (kx141 : (List Int) → Int → Int → (List (Int × Int)) → Int → Option ((Int × (List (Int × Int))) × ((List Int) × Int))) (z231 : Int) (rec216 : Int → (List Int) → Int → (List (Int × Int)) → Option ((Int × (List (Int × Int))) × ((List Int) × Int))) (v217 : Int) (v218 : List Int) (v222 : Int) (v223 : List (Int × Int)) : Option ((Int × (List (Int × Int))) × ((List Int) × Int)) :=
  if (0 ≤ v217) then ((make_Deck_Next (v218, v222) 1000).bind fun u236 => (make_Deck_Next u236.2 1000).bind fun u243 => (lapp v223 ([(u236.1, u243.1)] : List (Int × Int))).bind fun u257 => rec216 (w64 (v217 - 1)) u243.2.1 u243.2.2 u257) else
 kx141 v218 v222 z231 v223 0
def make_Hashing_L2 (kx141 : (List Int) → Int → Int → (List (Int × Int)) → Int → Option ((Int × (List (Int × Int))) × ((List Int) × Int))) (z231 : Int) : Nat → Int → (List Int) → Int → (List (Int × Int)) → Option ((Int × (List (Int × Int))) × ((List Int) × Int))
  | 0, _, _, _, _ => none
  | n + 1, v217, v218, v222, v223 => make_Hashing_B2 kx141 z231 (make_Hashing_L2 kx141 z231 n) v217 v218 v222 v223
def make_Hashing (x0 : ((List Int) × Int)) : Option ((Int × (List (Int × Int))) × ((List Int) × Int)) :=
  (make_Deck_Next x0 8).bind fun u2 => (make_Deck_Next u2.2 3).bind fun u10 => make_Hashing_L2 make_Hashing_J1 (w64 (1 + u2.1)) big u10.1 u10.2.1 u10.2.2 ([] : List (Int × Int))

def make_New (x0 : (List Int)) : Option ((List Int) × Int) :=
  some (x0, 0)

def ref19_Check_B1 (rec44 : Option Int) (x54 : (Int × Int)) : Option Int :=
  if ((((x54.1 < 0) ∨ (2147483647 ≤ x54.1)) ∨ (x54.2 < 0)) ∨ (2147483647 ≤ x54.2)) then (some 2) else
 rec44
def ref19_Check_L1 : (List (Int × Int)) → Option Int
  | [] => some 0
  | x54 :: xs => ref19_Check_B1 (ref19_Check_L1 xs) x54 
def ref19_Check (x0 : (Int × (List (Int × Int)))) : Option Int :=
  if ((((x0.1 < 1) ∨ (64 < x0.1)) ∨ ((x0.2.length : Int) < 1)) ∨ (4 < (x0.2.length : Int))) then (some 2) else
 ref19_Check_L1 x0.2 

def ref19_Homes_B1 (z83 : Int) (z86 : Int) (rec71 : (List Int) → Option ((List Int) × Int)) (x88 : (Int × Int)) (v75 : List Int) : Option ((List Int) × Int) :=
  (nz z86).bind fun _ => (lapp v75 ([(Int.tmod (Int.tmod (w64 ((w64 (x88.1 * z83)) + x88.2)) 2147483647) z86)] : List Int)).bind fun u103 => rec71 u103
def ref19_Homes_L1 (z83 : Int) (z86 : Int) : (List (Int × Int)) → (List Int) → Option ((List Int) × Int)
  | [], v75 => some (v75, 0)
  | x88 :: xs, v75 => ref19_Homes_B1 z83 z86 (ref19_Homes_L1 z83 z86 xs) x88 v75
def ref19_Homes (x0 : (Int × (List (Int × Int)))) (x1 : Int) : Option ((List Int) × Int) :=
  (ref19_Check x0).bind fun u2 => if (u2 ≠ 0) then (some (([] : List Int), u2)) else
 if ((x1 < 0) ∨ (2147483647 ≤ x1)) then (some (([] : List Int), 1)) else
 ref19_Homes_L1 x1 x0.1 x0.2 ([] : List Int)

def ref19_all_B1 (z111 : Int) (z112 : List (Int × Int)) (rec93 : (List (List Int)) → Option ((List (List Int)) × Int)) (x114 : Int) (v101 : List (List Int)) : Option ((List (List Int)) × Int) :=
  (ref19_Homes (z111, z112) x114).bind fun u119 => if (u119.2 ≠ 0) then (some (([] : List (List Int)), u119.2)) else
(lapp v101 ([u119.1] : List (List Int))).bind fun u144 => rec93 u144
def ref19_all_L1 (z111 : Int) (z112 : List (Int × Int)) : (List Int) → (List (List Int)) → Option ((List (List Int)) × Int)
  | [], v101 => some (v101, 0)
  | x114 :: xs, v101 => ref19_all_B1 z111 z112 (ref19_all_L1 z111 z112 xs) x114 v101
def ref19_all (x0 : (Int × (List (Int × Int)))) (x1 : (List Int)) : Option ((List (List Int)) × Int) :=
  (ref19_Check x0).bind fun u2 => if (u2 ≠ 0) then (some (([] : List (List Int)), u2)) else
 ref19_all_L1 x0.1 x0.2 x1 ([] : List (List Int))

def ref19_place_B1 (rec227 : (List Bool) → Option (Bool × (List (List Int)) × (List Bool))) (rec9999 : (List (List Int)) → (List (List Int)) → (List Int) → Int → Int → (List Bool) → Option (Bool × (List (List Int)) × (List Bool))) (z397 : List (List Int)) (z398 : List Int) (z399 : Int) (z400 : Int) (z403 : Int) (z406 : List (List Int)) (rec384 : (List Bool) → Option (Bool × (List (List Int)) × (List Bool))) (x408 : Int) (i384 : Nat) (v388 : List Bool) : Option (Bool × (List (List Int)) × (List Bool)) :=
  (rec9999 z397 z406 z398 z399 x408 v388).bind fun u413 => if (u413.1 = true) then ((lidx u413.2.1 z403).bind fun u435 => (lidx u435 (i384 : Int)).bind fun u442 => (lupd u435 (i384 : Int) z400).bind fun u448 => (lupd u413.2.1 z403 u448).bind fun u453 => some (true, u453, u413.2.2)) else
 rec384 u413.2.2
def ref19_place_L1 (rec227 : (List Bool) → Option (Bool × (List (List Int)) × (List Bool))) (rec9999 : (List (List Int)) → (List (List Int)) → (List Int) → Int → Int → (List Bool) → Option (Bool × (List (List Int)) × (List Bool))) (z397 : List (List Int)) (z398 : List Int) (z399 : Int) (z400 : Int) (z403 : Int) (z406 : List (List Int)) : (List Int) → Nat → (List Bool) → Option (Bool × (List (List Int)) × (List Bool))
  | [], i384, v388 => rec227 v388
  | x408 :: xs, i384, v388 => ref19_place_B1 rec227 rec9999 z397 z398 z399 z400 z403 z406 (ref19_place_L1 rec227 rec9999 z397 z398 z399 z400 z403 z406 xs (i384 + 1)) x408 i384 v388
def ref19_place_B2 (rec9999 : (List (List Int)) → (List (List Int)) → (List Int) → Int → Int → (List Bool) → Option (Bool × (List (List Int)) × (List Bool))) (z239 : List (List Int)) (z240 : List Int) (z241 : Int) (z242 : Int) (z245 : List (List Int)) (rec227 : (List Bool) → Option (Bool × (List (List Int)) × (List Bool))) (x247 : Int) (v231 : List Bool) : Option (Bool × (List (List Int)) × (List Bool)) :=
  (lidx v231 x247).bind fun u252 => if (u252 = true) then (rec227 v231) else
(lidx v231 x247).bind fun u260 => (lupd v231 x247 true).bind fun u265 => (lidx z240 x247).bind fun u271 => (lidx z245 x247).bind fun u276 => if ((w64 ((u276.length : Int) + u271)) < z241) then ((lidx z245 x247).bind fun u285 => (lapp u285 ([z242] : List Int)).bind fun u305 => (lidx z245 x247).bind fun u308 => (lupd z245 x247 u305).bind fun u315 => some (true, u315, u265)) else
(lidx z245 x247).bind fun u322 => ref19_place_L1 rec227 rec9999 z239 z240 z241 z242 x247 z245 u322 0 u265
def ref19_place_L2 (rec9999 : (List (List Int)) → (List (List Int)) → (List Int) → Int → Int → (List Bool) → Option (Bool × (List (List Int)) × (List Bool))) (z239 : List (List Int)) (z240 : List Int) (z241 : Int) (z242 : Int) (z245 : List (List Int)) : (List Int) → (List Bool) → Option (Bool × (List (List Int)) × (List Bool))
  | [], v231 => some (false, z245, v231)
  | x247 :: xs, v231 => ref19_place_B2 rec9999 z239 z240 z241 z242 z245 (ref19_place_L2 rec9999 z239 z240 z241 z242 z245 xs) x247 v231
def ref19_place_B3 (rec9999 : (List (List Int)) → (List (List Int)) → (List Int) → Int → Int → (List Bool) → Option (Bool × (List (List Int)) × (List Bool))) (x0 : (List (List Int))) (x1 : (List (List Int))) (x2 : (List Int)) (x3 : Int) (x4 : Int) (x5 : (List Bool)) : Option (Bool × (List (List Int)) × (List Bool)) :=
  (lidx x0 x4).bind fun u4 => ref19_place_L2 rec9999 x0 x2 x3 x4 x1 u4 x5

def ref19_place_R : Nat → (List (List Int)) → (List (List Int)) → (List Int) → Int → Int → (List Bool) → Option (Bool × (List (List Int)) × (List Bool))
  | 0, _, _, _, _, _, _ => none
  | n + 1, x0, x1, x2, x3, x4, x5 => ref19_place_B3 (ref19_place_R n) x0 x1 x2 x3 x4 x5

def ref19_place (x0 : (List (List Int))) (x1 : (List (List Int))) (x2 : (List Int)) (x3 : Int) (x4 : Int) (x5 : (List Bool)) : Option (Bool × (List (List Int)) × (List Bool)) := ref19_place_R big x0 x1 x2 x3 x4 x5

def ref19_Possible_B1 (z57 : List (List Int)) (z58 : Int) (z59 : Int) (z60 : List Int) (rec44 : (List (List Int)) → Option Bool) (x63 : (List Int)) (i44 : Nat) (v48 : List (List Int)) : Option Bool :=
  (lmk z58 false).bind fun u65 => (ref19_place z57 v48 z60 z59 (i44 : Int) u65).bind fun u75 => if (u75.1 = true) then (rec44 u75.2.1) else
 some false
def ref19_Possible_L1 (z57 : List (List Int)) (z58 : Int) (z59 : Int) (z60 : List Int) : (List (List Int)) → Nat → (List (List Int)) → Option Bool
  | [], i44, v48 => some true
  | x63 :: xs, i44, v48 => ref19_Possible_B1 z57 z58 z59 z60 (ref19_Possible_L1 z57 z58 z59 z60 xs (i44 + 1)) x63 i44 v48
def ref19_Possible (x0 : (List (List Int))) (x1 : Int) (x2 : Int) (x3 : (List Int)) : Option Bool :=
  (lmk x1 ([] : List Int)).bind fun u1 => ref19_Possible_L1 x0 x1 x2 x3 x0 0 u1

def ref19_First_B1 (rec364 : (List Int) → (List Int) → Option ((List Int) × Bool)) (z482 : Int) (z483 : List (List Int)) (z484 : Int) (z485 : Int) (z489 : List Int) (rec470 : (List Int) → Option ((List Int) × Bool)) (x491 : Int) (v474 : List Int) : Option ((List Int) × Bool) :=
  (lidx v474 x491).bind fun u496 => if (u496 = z485) then (rec470 v474) else
(lidx v474 x491).bind fun u504 => (lidx v474 x491).bind fun u509 => (lupd v474 x491 (w64 (u504 + 1))).bind fun u514 => (lsub z483 (w64 (z482 + 1)) (z483.length : Int)).bind fun u519 => (ref19_Possible u519 z484 z485 u514).bind fun u525 => if (u525 = true) then ((lapp z489 ([x491] : List Int)).bind fun u538 => rec364 u538 u514) else
(lidx u514 x491).bind fun u542 => (lidx u514 x491).bind fun u547 => (lupd u514 x491 (w64 (u542 - 1))).bind fun u552 => rec470 u552
def ref19_First_L1 (rec364 : (List Int) → (List Int) → Option ((List Int) × Bool)) (z482 : Int) (z483 : List (List Int)) (z484 : Int) (z485 : Int) (z489 : List Int) : (List Int) → (List Int) → Option ((List Int) × Bool)
  | [], v474 => rec364 z489 v474
  | x491 :: xs, v474 => ref19_First_B1 rec364 z482 z483 z484 z485 z489 (ref19_First_L1 rec364 z482 z483 z484 z485 z489 xs) x491 v474
def ref19_First_B2 (z382 : List (List Int)) (z383 : Int) (z384 : Int) (rec364 : (List Int) → (List Int) → Option ((List Int) × Bool)) (x387 : (List Int)) (i364 : Nat) (v368 : List Int) (v374 : List Int) : Option ((List Int) × Bool) :=
  ref19_First_L1 rec364 (i364 : Int) z382 z383 z384 v368 x387 v374
def ref19_First_L2 (z382 : List (List Int)) (z383 : Int) (z384 : Int) : (List (List Int)) → Nat → (List Int) → (List Int) → Option ((List Int) × Bool)
  | [], i364, v368, v374 => some (v368, true)
  | x387 :: xs, i364, v368, v374 => ref19_First_B2 z382 z383 z384 (ref19_First_L2 z382 z383 z384 xs (i364 + 1)) x387 i364 v368 v374
def ref19_First (x0 : (List (List Int))) (x1 : Int) (x2 : Int) : Option ((List Int) × Bool) :=
  (lmk x1 0).bind fun u1 => (ref19_Possible x0 x1 x2 u1).bind fun u7 => if ((!u7) = true) then (some (([] : List Int), false)) else
 ref19_First_L2 x0 x1 x2 x0 0 ([] : List Int) u1

def ref19_Assign_J1 (v155 : List Int) (v161 : Int) : Option ((List Int) × Int) :=
  some (v155, 0)
def ref19_Assign_B2 (kx162 : (List Int) → Int → Option ((List Int) × Int)) (z206 : Int) (rec193 : (List Int) → Option ((List Int) × Int)) (x210 : Int) (i193 : Nat) (v197 : List Int) : Option ((List Int) × Int) :=
  (lidx v197 x210).bind fun u215 => (lupd v197 x210 (i193 : Int)).bind fun u220 => rec193 u220
def ref19_Assign_L2 (kx162 : (List Int) → Int → Option ((List Int) × Int)) (z206 : Int) : (List Int) → Nat → (List Int) → Option ((List Int) × Int)
  | [], i193, v197 => kx162 v197 z206
  | x210 :: xs, i193, v197 => ref19_Assign_B2 kx162 z206 (ref19_Assign_L2 kx162 z206 xs (i193 + 1)) x210 i193 v197
def ref19_Assign_J3 (z101 : List Int) (v91 : List Int) (v97 : Int) : Option ((List Int) × Int) :=
  ref19_Assign_L2 ref19_Assign_J1 v97 z101 0 v91
def ref19_Assign_B4 (kx98 : (List Int) → Int → Option ((List Int) × Int)) (z255 : Int) (rec242 : (List Int) → Option ((List Int) × Int)) (x259 : Int) (i242 : Nat) (v246 : List Int) : Option ((List Int) × Int) :=
  (lidx v246 (i242 : Int)).bind fun u261 => (lupd v246 (i242 : Int) (-1)).bind fun u266 => rec242 u266
def ref19_Assign_L4 (kx98 : (List Int) → Int → Option ((List Int) × Int)) (z255 : Int) : (List Int) → Nat → (List Int) → Option ((List Int) × Int)
  | [], i242, v246 => kx98 v246 z255
  | x259 :: xs, i242, v246 => ref19_Assign_B4 kx98 z255 (ref19_Assign_L4 kx98 z255 xs (i242 + 1)) x259 i242 v246
def ref19_Assign (x0 : (Int × (List (Int × Int)))) (x1 : (List Int)) : Option ((List Int) × Int) :=
  (ref19_all x0 x1).bind fun u3 => if (u3.2 ≠ 0) then (some (([] : List Int), u3.2)) else
 if (x0.1 < (x1.length : Int)) then (some (([] : List Int), 4)) else
(ref19_First u3.1 x0.1 1).bind fun u27 => if ((!u27.2) = true) then (some (([] : List Int), 15)) else
(lmk x0.1 0).bind fun u39 => ref19_Assign_L4 (ref19_Assign_J3 u27.1) x0.1 u39 0 u39

def ref19_sets_B1 (z18 : Int) (z19 : Int) (rec13 : Int → Int → Option Int) (v14 : Int) (v15 : Int) : Option Int :=
  if (v15 < (min z19 (w64 (z18 - z19)))) then ((nz (w64 (v15 + 1))).bind fun _ => if (4096 < (w64 (Int.tdiv (w64 (v14 * (w64 (z18 - v15)))) (w64 (v15 + 1))))) then (some 4097) else
 rec13 (w64 (Int.tdiv (w64 (v14 * (w64 (z18 - v15)))) (w64 (v15 + 1)))) (w64 (v15 + 1))) else
 some v14
def ref19_sets_L1 (z18 : Int) (z19 : Int) : Nat → Int → Int → Option Int
  | 0, _, _ => none
  | n + 1, v14, v15 => ref19_sets_B1 z18 z19 (ref19_sets_L1 z18 z19 n) v14 v15
def ref19_sets (x0 : Int) (x1 : Int) : Option Int :=
  ref19_sets_L1 x0 x1 big 1 0

def ref19_Failures_B1 (rec370 : Int → Int → (List Int) → Int → Option (Int × Int × Int)) (z546 : Int) (z547 : Int) (z549 : Int) (z551 : Int) (rec536 : Int → (List Int) → Option (Int × Int × Int)) (v537 : Int) (v538 : List Int) : Option (Int × Int × Int) :=
  if (v537 < z549) then ((lidx v538 (w64 (v537 - 1))).bind fun u557 => (lidx v538 v537).bind fun u562 => (lupd v538 v537 (w64 (u557 + 1))).bind fun u567 => rec536 (w64 (v537 + 1)) u567) else
 rec370 z546 (w64 (z547 + 1)) v538 z551
def ref19_Failures_L1 (rec370 : Int → Int → (List Int) → Int → Option (Int × Int × Int)) (z546 : Int) (z547 : Int) (z549 : Int) (z551 : Int) : Nat → Int → (List Int) → Option (Int × Int × Int)
  | 0, _, _ => none
  | n + 1, v537, v538 => ref19_Failures_B1 rec370 z546 z547 z549 z551 (ref19_Failures_L1 rec370 z546 z547 z549 z551 n) v537 v538
def ref19_Failures_J2 (rec370 : Int → Int → (List Int) → Int → Option (Int × Int × Int)) (z489 : Int) (z490 : Int) (z492 : Int) (z493 : Int) (z495 : List Int) (v485 : Int) (v486 : Int) : Option (Int × Int × Int) :=
  if (v485 < 0) then (some (z489, z493, 0)) else
(lidx z495 v485).bind fun u499 => (lidx z495 v485).bind fun u504 => (lupd z495 v485 (w64 (u499 + 1))).bind fun u509 => ref19_Failures_L1 rec370 z489 z490 z492 v486 big (w64 (v485 + 1)) u509
def ref19_Failures_B3 (kx487 : Int → Int → Option (Int × Int × Int)) (z606 : Int) (z607 : Int) (z609 : Int) (z611 : List Int) (rec600 : Int → Option (Int × Int × Int)) (v601 : Int) : Option (Int × Int × Int) :=
  (if (0 ≤ v601) then ((lidx z611 v601).bind fun u630 => some (decide (u630 = (w64 ((w64 (z606 - z607)) + v601))))) else some false).bind fun u621 => if (u621 = true) then (rec600 (w64 (v601 - 1))) else
 kx487 v601 z609
def ref19_Failures_L3 (kx487 : Int → Int → Option (Int × Int × Int)) (z606 : Int) (z607 : Int) (z609 : Int) (z611 : List Int) : Nat → Int → Option (Int × Int × Int)
  | 0, _ => none
  | n + 1, v601 => ref19_Failures_B3 kx487 z606 z607 z609 z611 (ref19_Failures_L3 kx487 z606 z607 z609 z611 n) v601
def ref19_Failures_J4 (rec370 : Int → Int → (List Int) → Int → Option (Int × Int × Int)) (z416 : Int) (z417 : Int) (z418 : Int) (z419 : Int) (z420 : Int) (z422 : List Int) (v413 : Int) : Option (Int × Int × Int) :=
  ref19_Failures_L3 (ref19_Failures_J2 rec370 v413 z416 z418 z419 z422) z417 z418 z420 z422 big (w64 (z418 - 1))
def ref19_Failures_B5 (z382 : Int) (z383 : Int) (z384 : Int) (z385 : List (Int × Int)) (rec370 : Int → Int → (List Int) → Int → Option (Int × Int × Int)) (v371 : Int) (v372 : Int) (v373 : List Int) (v379 : Int) : Option (Int × Int × Int) :=
  if (v372 < z384) then ((ref19_Assign (v379, z385) v373).bind fun u397 => if (u397.2 ≠ 0) then ((ref19_Failures_J4 rec370 v372 z382 z383 z384 v379 v373) (w64 (v371 + 1))) else
(ref19_Failures_J4 rec370 v372 z382 z383 z384 v379 v373) v371) else
 some (v371, z384, 0)
def ref19_Failures_L5 (z382 : Int) (z383 : Int) (z384 : Int) (z385 : List (Int × Int)) : Nat → Int → Int → (List Int) → Int → Option (Int × Int × Int)
  | 0, _, _, _, _ => none
  | n + 1, v371, v372, v373, v379 => ref19_Failures_B5 z382 z383 z384 z385 (ref19_Failures_L5 z382 z383 z384 z385 n) v371 v372 v373 v379
def ref19_Failures_J6 (z108 : Int) (z109 : Int) (z110 : Int) (z111 : List (Int × Int)) (v99 : List Int) (v105 : Int) : Option (Int × Int × Int) :=
  ref19_Failures_L5 z108 z109 z110 z111 big 0 0 v99 v105
def ref19_Failures_B7 (kx106 : (List Int) → Int → Option (Int × Int × Int)) (z692 : Int) (z694 : Int) (rec681 : (List Int) → Int → Option (Int × Int × Int)) (v682 : List Int) (v688 : Int) : Option (Int × Int × Int) :=
  if (v688 < z692) then ((lapp v682 ([v688] : List Int)).bind fun u707 => rec681 u707 (w64 (v688 + 1))) else
 kx106 v682 z694
def ref19_Failures_L7 (kx106 : (List Int) → Int → Option (Int × Int × Int)) (z692 : Int) (z694 : Int) : Nat → (List Int) → Int → Option (Int × Int × Int)
  | 0, _, _ => none
  | n + 1, v682, v688 => ref19_Failures_B7 kx106 z692 z694 (ref19_Failures_L7 kx106 z692 z694 n) v682 v688
def ref19_Failures (x0 : (Int × (List (Int × Int)))) (x1 : Int) (x2 : Int) : Option (Int × Int × Int) :=
  (ref19_Check x0).bind fun u2 => if (u2 ≠ 0) then (some (0, 0, u2)) else
 if ((((x1 < 0) ∨ (1024 < x1)) ∨ (x2 < 0)) ∨ (x1 < x2)) then (some (0, 0, 1)) else
(ref19_sets x1 x2).bind fun u24 => if (4096 < u24) then (some (0, 0, 4)) else
 ref19_Failures_L7 (ref19_Failures_J6 x1 x2 u24 x0.2) x2 x0.1 big ([] : List Int) 0

def law19_CuckooFails_B1 (rec187 : Int → Int → Option Bool) (z289 : Int) (z290 : List (Int × Int)) (z292 : Int) (z293 : Int) (rec278 : Option Bool) (x298 : (Int × Int)) : Option Bool :=
  if ((((200 < x298.1) ∧ (1 < x298.2)) ∧ (1 < (w64 (x298.1 - x298.2)))) ∧ (x298.1 ≤ 1024)) then (rec278) else
(cuckoo_Failures (z289, z290) x298.1 x298.2).bind fun u319 => (ref19_Failures (z289, z290) x298.1 x298.2).bind fun u323 => if (((u319.1 ≠ u323.1) ∨ (u319.2.1 ≠ u323.2.1)) ∨ (u319.2.2 ≠ u323.2.2)) then (some false) else
 rec278
def law19_CuckooFails_L1 (rec187 : Int → Int → Option Bool) (z289 : Int) (z290 : List (Int × Int)) (z292 : Int) (z293 : Int) : (List (Int × Int)) → Option Bool
  | [] => rec187 z292 z293
  | x298 :: xs => law19_CuckooFails_B1 rec187 z289 z290 z292 z293 (law19_CuckooFails_L1 rec187 z289 z290 z292 z293 xs) x298 
def law19_CuckooFails_B2 (z195 : Int) (z196 : Int) (rec187 : Int → Int → Option Bool) (x202 : (Int × (List (Int × Int)))) (v191 : Int) (v192 : Int) : Option Bool :=
  (make_Mod z195 9).bind fun u211 => (make_Mod z196 10).bind fun u215 => (make_Mod z195 1030).bind fun u219 => (make_Mod z196 2).bind fun u223 => law19_CuckooFails_L1 rec187 x202.1 x202.2 v191 v192 ([(z195, z196), (u211, u215), (u219, u223)] : List (Int × Int)) 
def law19_CuckooFails_L2 (z195 : Int) (z196 : Int) : (List (Int × (List (Int × Int)))) → Int → Int → Option Bool
  | [], v191, v192 => some true
  | x202 :: xs, v191, v192 => law19_CuckooFails_B2 z195 z196 (law19_CuckooFails_L2 z195 z196 xs) x202 v191 v192
def law19_CuckooFails (x0 : (List Int)) (x1 : (Int × (List (Int × Int)))) (x2 : Int) (x3 : Int) : Option Bool :=
  (law19_sane).bind fun u2 => if ((!u2) = true) then (some false) else
(make_Few x0).bind fun u9 => if (((!u9) = true) ∨ (20 < (x1.2.length : Int))) then (some true) else
(make_New x0).bind fun u20 => (make_Hashing u20).bind fun u28 => law19_CuckooFails_L2 x2 x3 ([x1, u28.1] : List (Int × (List (Int × Int)))) u28.2.2 x1.1

def law19_items_B1 (rec61 : (List Int) → Int → (List Int) → Int → Option ((List Int) × ((List Int) × Int))) (v62 : List Int) (v68 : Int) (v69 : List Int) (v73 : Int) : Option ((List Int) × ((List Int) × Int)) :=
  if (0 < v68) then ((make_Deck_Next (v69, v73) 30).bind fun u80 => (lapp v62 ([u80.1] : List Int)).bind fun u94 => rec61 u94 (w64 (v68 - 1)) u80.2.1 u80.2.2) else
 some (v62, (v69, v73))
def law19_items_L1 : Nat → (List Int) → Int → (List Int) → Int → Option ((List Int) × ((List Int) × Int))
  | 0, _, _, _, _ => none
  | n + 1, v62, v68, v69, v73 => law19_items_B1 (law19_items_L1 n) v62 v68 v69 v73
def law19_items (x0 : ((List Int) × Int)) (x1 : Int) : Option ((List Int) × ((List Int) × Int)) :=
  (make_Deck_Next x0 (w64 (x1 + 1))).bind fun u1 => law19_items_L1 big ([] : List Int) u1.1 u1.2.1 u1.2.2

def law19_CuckooParts_J1 (z8189 : Int) (z8190 : List Int) (z8191 : Int) (z8195 : Int) (z8196 : List (Int × Int)) (v8180 : Int) (v8181 : List (Int × Int)) : Option Bool :=
  (cuckoo_Assign (v8180, v8181) z8190).bind fun u8204 => (cuckoo_Failures (z8195, z8196) 6 (min 3 z8195)).bind fun u8216 => (cuckoo_Failures (v8180, v8181) 6 (min 3 z8195)).bind fun u8220 => some (decide ((((((((z8191 ≠ 0) ∨ ((z8189 = 0) ∧ (u8204.2 = 0))) ∧ (u8216.2.2 = 0)) ∧ (u8220.2.2 = 0)) ∧ (u8216.2.1 = u8220.2.1)) ∧ (u8220.1 ≤ u8216.1)) ∧ (u8216.1 ≤ u8216.2.1)) ∧ (0 ≤ u8216.1)))
def law19_CuckooParts_J2 (z4132 : List Int) (z4133 : Int) (z4137 : Int) (z4138 : List (Int × Int)) (z4139 : Int) (z4140 : Int) (v4129 : Int) : Option Bool :=
  (lapp ([] : List (Int × Int)) z4138).bind fun u8266 => (make_Mod z4139 2147483647).bind fun u8268 => (make_Mod z4140 2147483647).bind fun u8271 => (lapp u8266 ([(u8268, u8271)] : List (Int × Int))).bind fun u8281 => (law19_CuckooParts_J1 v4129 z4132 z4133 z4137 z4138) z4137 u8281
def law19_CuckooParts (x0 : (List Int)) (x1 : Int) (x2 : (Int × Int)) : Option Bool :=
  (law19_sane).bind fun u2 => if ((!u2) = true) then (some false) else
(make_Few x0).bind fun u9 => if ((!u9) = true) then (some true) else
(make_New x0).bind fun u16 => (make_Hashing u16).bind fun u24 => (law19_items u24.2 u24.1.1).bind fun u39 => (cuckoo_Assign u24.1 u39.1).bind fun u56 => (nz (w64 ((u39.1.length : Int) + 1))).bind fun _ => (lsub u39.1 0 (Int.tmod (w64 x1) (w64 ((u39.1.length : Int) + 1)))).bind fun u12299 => (lsub u39.1 (min (w64 ((Int.tmod (w64 x1) (w64 ((u39.1.length : Int) + 1))) + 1)) (u39.1.length : Int)) (u39.1.length : Int)).bind fun u12304 => (lapp ([] : List Int) u12299).bind fun u12314 => (lapp u12314 u12304).bind fun u12320 => (cuckoo_Assign u24.1 u12320).bind fun u12327 => (law19_CuckooParts_J2 u39.1 u56.2 u24.1.1 u24.1.2 x2.1 x2.2) u12327.2

def make_Order_B1 (rec197 : (List Int) → (List Int) → (List Int) → Int → Option ((List Int) × ((List Int) × Int))) (v202 : List Int) (v206 : List Int) (v212 : List Int) (v216 : Int) : Option ((List Int) × ((List Int) × Int)) :=
  if (0 < (v202.length : Int)) then ((make_Deck_Next (v212, v216) (v202.length : Int)).bind fun u223 => (lidx v202 u223.1).bind fun u230 => (lapp v206 ([u230] : List Int)).bind fun u242 => (lsub3 v202 0 u223.1 u223.1).bind fun u245 => (lsub v202 (w64 (u223.1 + 1)) (v202.length : Int)).bind fun u251 => (lapp u245 u251).bind fun u257 => rec197 u257 u242 u223.2.1 u223.2.2) else
 some (v206, (v212, v216))
def make_Order_L1 : Nat → (List Int) → (List Int) → (List Int) → Int → Option ((List Int) × ((List Int) × Int))
  | 0, _, _, _, _ => none
  | n + 1, v202, v206, v212, v216 => make_Order_B1 (make_Order_L1 n) v202 v206 v212 v216
def make_Order_J2 (z76 : List Int) (v67 : List Int) (v73 : Int) : Option ((List Int) × ((List Int) × Int)) :=
  make_Order_L1 big v67 ([] : List Int) z76 v73
def make_Order_B3 (kx74 : (List Int) → Int → Option ((List Int) × ((List Int) × Int))) (z317 : Int) (z319 : Int) (rec307 : (List Int) → Int → Option ((List Int) × ((List Int) × Int))) (v308 : List Int) (v314 : Int) : Option ((List Int) × ((List Int) × Int)) :=
  if (v314 < z317) then ((lapp v308 ([v314] : List Int)).bind fun u331 => rec307 u331 (w64 (v314 + 1))) else
 kx74 v308 z319
def make_Order_L3 (kx74 : (List Int) → Int → Option ((List Int) × ((List Int) × Int))) (z317 : Int) (z319 : Int) : Nat → (List Int) → Int → Option ((List Int) × ((List Int) × Int))
  | 0, _, _ => none
  | n + 1, v308, v314 => make_Order_B3 kx74 z317 z319 (make_Order_L3 kx74 z317 z319 n) v308 v314
def make_Order (x0 : ((List Int) × Int)) (x1 : Int) : Option ((List Int) × ((List Int) × Int)) :=
  make_Order_L3 (make_Order_J2 x0.1) x1 x0.2 big ([] : List Int) 0

def slices_Index_Lintint_B1 (z21 : Int) (rec14 : Option Int) (x24 : Int) (i14 : Nat) : Option Int :=
  if (z21 = x24) then (some (i14 : Int)) else
 rec14
def slices_Index_Lintint_L1 (z21 : Int) : (List Int) → Nat → Option Int
  | [], i14 => some (-1)
  | x24 :: xs, i14 => slices_Index_Lintint_B1 z21 (slices_Index_Lintint_L1 z21 xs (i14 + 1)) x24 i14 
def slices_Index_Lintint (x0 : (List Int)) (x1 : Int) : Option Int :=
  slices_Index_Lintint_L1 x1 x0 0 

def slices_Contains_Lintint (x0 : (List Int)) (x1 : Int) : Option Bool :=
  (slices_Index_Lintint x0 x1).bind fun u1 => some (decide (0 ≤ u1))

def slices_Index_Lboolbool_B1 (z21 : Bool) (rec14 : Option Int) (x24 : Bool) (i14 : Nat) : Option Int :=
  if (z21 = x24) then (some (i14 : Int)) else
 rec14
def slices_Index_Lboolbool_L1 (z21 : Bool) : (List Bool) → Nat → Option Int
  | [], i14 => some (-1)
  | x24 :: xs, i14 => slices_Index_Lboolbool_B1 z21 (slices_Index_Lboolbool_L1 z21 xs (i14 + 1)) x24 i14 
def slices_Index_Lboolbool (x0 : (List Bool)) (x1 : Bool) : Option Int :=
  slices_Index_Lboolbool_L1 x1 x0 0 

def slices_Contains_Lboolbool (x0 : (List Bool)) (x1 : Bool) : Option Bool :=
  (slices_Index_Lboolbool x0 x1).bind fun u1 => some (decide (0 ≤ u1))

def cuckoo_Fits_J1 (v254 : List Bool) (v260 : Int) : Option Bool :=
  (slices_Contains_Lboolbool v254 false).bind fun u270 => some (!u270)
def cuckoo_Fits_B2 (kx261 : (List Bool) → Int → Option Bool) (z398 : List Int) (z401 : Int) (z402 : List (Int × Int)) (rec382 : (List Bool) → Option Bool) (x404 : Int) (i382 : Nat) (v390 : List Bool) : Option Bool :=
  if (x404 = (-1)) then (rec382 v390) else
(if ((x404 < 0) ∨ ((z398.length : Int) ≤ x404)) then (some true) else (lidx v390 x404).bind fun u500 => some u500).bind fun u423 => (if (u423 = true) then (some true) else (lidx z398 x404).bind fun u475 => (cuckoo_homes (z401, z402) u475).bind fun u480 => (slices_Contains_Lintint u480 (i382 : Int)).bind fun u494 => some (!u494)).bind fun u453 => if (u453 = true) then (some false) else
(lidx v390 x404).bind fun u463 => (lupd v390 x404 true).bind fun u468 => rec382 u468
def cuckoo_Fits_L2 (kx261 : (List Bool) → Int → Option Bool) (z398 : List Int) (z401 : Int) (z402 : List (Int × Int)) : (List Int) → Nat → (List Bool) → Option Bool
  | [], i382, v390 => kx261 v390 z401
  | x404 :: xs, i382, v390 => cuckoo_Fits_B2 kx261 z398 z401 z402 (cuckoo_Fits_L2 kx261 z398 z401 z402 xs (i382 + 1)) x404 i382 v390
def cuckoo_Fits (x0 : (Int × (List (Int × Int)))) (x1 : (List Int)) (x2 : (List Int)) : Option Bool :=
  (cuckoo_asked x0 x1).bind fun u3 => if ((u3 ≠ 0) ∨ ((x2.length : Int) ≠ x0.1)) then (some false) else
(lmk (x1.length : Int) false).bind fun u14 => cuckoo_Fits_L2 cuckoo_Fits_J1 x1 x0.1 x0.2 x2 0 u14

def law19_CuckooOrder_J1 (z265 : List Int) (z266 : List Int) (z268 : List (Int × Int)) (z269 : List Int) (v260 : Int) (v261 : Int) (v262 : Int) : Option Bool :=
  (if (v260 = (z266.length : Int)) then ((cuckoo_Fits (v262, z268) z265 z269).bind fun u288 => some u288) else some false).bind fun u278 => some (decide ((u278 = true) ∧ ((z269.length : Int) = v262)))
def law19_CuckooOrder_B2 (kx263 : Int → Int → Int → Option Bool) (z323 : Int) (z324 : Int) (rec310 : Int → Option Bool) (x328 : Int) (v314 : Int) : Option Bool :=
  if (0 ≤ x328) then (rec310 (w64 (v314 + 1))) else
 rec310 v314
def law19_CuckooOrder_L2 (kx263 : Int → Int → Int → Option Bool) (z323 : Int) (z324 : Int) : (List Int) → Int → Option Bool
  | [], v314 => kx263 v314 z323 z324
  | x328 :: xs, v314 => law19_CuckooOrder_B2 kx263 z323 z324 (law19_CuckooOrder_L2 kx263 z323 z324 xs) x328 v314
def law19_CuckooOrder_J3 (z175 : List (Int × Int)) (z177 : List Int) (v164 : List Int) (v170 : Int) (v171 : Int) : Option Bool :=
  (cuckoo_Assign (v171, z175) z177).bind fun u183 => (cuckoo_Assign (v171, z175) v164).bind fun u200 => if (u183.2 ≠ u200.2) then (some false) else
 if (u183.2 ≠ 0) then (some true) else
 law19_CuckooOrder_L2 (law19_CuckooOrder_J1 v164 z177 z175 u200.1) v170 v171 u183.1 0
def law19_CuckooOrder_B4 (kx172 : (List Int) → Int → Int → Option Bool) (z410 : Int) (z411 : Int) (z414 : List Int) (rec396 : (List Int) → Option Bool) (x416 : Int) (v400 : List Int) : Option Bool :=
  (lidx z414 x416).bind fun u421 => (lapp v400 ([u421] : List Int)).bind fun u433 => rec396 u433
def law19_CuckooOrder_L4 (kx172 : (List Int) → Int → Int → Option Bool) (z410 : Int) (z411 : Int) (z414 : List Int) : (List Int) → (List Int) → Option Bool
  | [], v400 => kx172 v400 z410 z411
  | x416 :: xs, v400 => law19_CuckooOrder_B4 kx172 z410 z411 z414 (law19_CuckooOrder_L4 kx172 z410 z411 z414 xs) x416 v400
def law19_CuckooOrder (x0 : (List Int)) : Option Bool :=
  (law19_sane).bind fun u1 => if ((!u1) = true) then (some false) else
(make_Few x0).bind fun u8 => if ((!u8) = true) then (some true) else
(make_New x0).bind fun u15 => (make_Hashing u15).bind fun u23 => (law19_items u23.2 u23.1.1).bind fun u38 => (make_Order u38.2 (u38.1.length : Int)).bind fun u50 => law19_CuckooOrder_L4 (law19_CuckooOrder_J3 u23.1.2 u38.1) u50.2.2 u23.1.1 u38.1 u50.1 ([] : List Int)

def law19_possible_B1 (rec9999 : (Int × (List (Int × Int))) → (List Int) → (List Bool) → Option (Bool × (List Bool))) (z91 : List Int) (z93 : Int) (z94 : List (Int × Int)) (rec79 : (List Bool) → Option (Bool × (List Bool))) (x97 : Int) (v83 : List Bool) : Option (Bool × (List Bool)) :=
  (lidx v83 x97).bind fun u102 => if (u102 = true) then (rec79 v83) else
(lidx v83 x97).bind fun u110 => (lupd v83 x97 true).bind fun u115 => (lsub z91 1 (z91.length : Int)).bind fun u121 => (rec9999 (z93, z94) u121 u115).bind fun u127 => if (u127.1 = true) then (some (true, u127.2)) else
(lidx u127.2 x97).bind fun u139 => (lupd u127.2 x97 false).bind fun u144 => rec79 u144
def law19_possible_L1 (rec9999 : (Int × (List (Int × Int))) → (List Int) → (List Bool) → Option (Bool × (List Bool))) (z91 : List Int) (z93 : Int) (z94 : List (Int × Int)) : (List Int) → (List Bool) → Option (Bool × (List Bool))
  | [], v83 => some (false, v83)
  | x97 :: xs, v83 => law19_possible_B1 rec9999 z91 z93 z94 (law19_possible_L1 rec9999 z91 z93 z94 xs) x97 v83
def law19_possible_B2 (rec9999 : (Int × (List (Int × Int))) → (List Int) → (List Bool) → Option (Bool × (List Bool))) (x0 : (Int × (List (Int × Int)))) (x1 : (List Int)) (x2 : (List Bool)) : Option (Bool × (List Bool)) :=
  if ((x1.length : Int) = 0) then (some (true, x2)) else
(lidx x1 0).bind fun u6 => (ref19_Homes x0 u6).bind fun u11 => law19_possible_L1 rec9999 x1 x0.1 x0.2 u11.1 x2

def law19_possible_R : Nat → (Int × (List (Int × Int))) → (List Int) → (List Bool) → Option (Bool × (List Bool))
  | 0, _, _, _ => none
  | n + 1, x0, x1, x2 => law19_possible_B2 (law19_possible_R n) x0 x1 x2

def law19_possible (x0 : (Int × (List (Int × Int)))) (x1 : (List Int)) (x2 : (List Bool)) : Option (Bool × (List Bool)) := law19_possible_R big x0 x1 x2

def cuckoo_Homes (x0 : (Int × (List (Int × Int)))) (x1 : Int) : Option ((List Int) × Int) :=
  (cuckoo_Check x0).bind fun u2 => if (u2 ≠ 0) then (some (([] : List Int), u2)) else
(cuckoo_item x1).bind fun u10 => if ((!u10) = true) then (some (([] : List Int), 1)) else
(cuckoo_homes x0 x1).bind fun u18 => some (u18, 0)

def law19_CuckooPlaces_B1 (rec342 : (List Bool) → Int → Int → Option Bool) (z487 : Int) (z488 : List Int) (z492 : Int) (z493 : Int) (z494 : List (Int × Int)) (z495 : List Int) (rec475 : (List Bool) → Option Bool) (x499 : Int) (v479 : List Bool) : Option Bool :=
  (lidx z495 x499).bind fun u504 => if (u504 = z487) then ((lidx v479 x499).bind fun u511 => (lupd v479 x499 true).bind fun u516 => rec342 u516 z492 z493) else
(lidx v479 x499).bind fun u522 => if (u522 = true) then (rec475 v479) else
(lidx v479 x499).bind fun u530 => (lupd v479 x499 true).bind fun u535 => (lsub z488 (w64 (z487 + 1)) (z488.length : Int)).bind fun u540 => (lapp ([] : List Bool) u535).bind fun u558 => (law19_possible (z493, z494) u540 u558).bind fun u565 => if (u565.1 = true) then (some false) else
(lidx u535 x499).bind fun u577 => (lupd u535 x499 false).bind fun u582 => rec475 u582
def law19_CuckooPlaces_L1 (rec342 : (List Bool) → Int → Int → Option Bool) (z487 : Int) (z488 : List Int) (z492 : Int) (z493 : Int) (z494 : List (Int × Int)) (z495 : List Int) : (List Int) → (List Bool) → Option Bool
  | [], v479 => rec342 v479 z492 z493
  | x499 :: xs, v479 => law19_CuckooPlaces_B1 rec342 z487 z488 z492 z493 z494 z495 (law19_CuckooPlaces_L1 rec342 z487 z488 z492 z493 z494 z495 xs) x499 v479
def law19_CuckooPlaces_B2 (z356 : List Int) (z359 : List (Int × Int)) (z360 : List Int) (rec342 : (List Bool) → Int → Int → Option Bool) (x363 : Int) (i342 : Nat) (v346 : List Bool) (v352 : Int) (v353 : Int) : Option Bool :=
  (cuckoo_Homes (v353, z359) x363).bind fun u368 => if (u368.2 ≠ 0) then (some false) else
 law19_CuckooPlaces_L1 rec342 (i342 : Int) z356 v352 v353 z359 z360 u368.1 v346
def law19_CuckooPlaces_L2 (z356 : List Int) (z359 : List (Int × Int)) (z360 : List Int) : (List Int) → Nat → (List Bool) → Int → Int → Option Bool
  | [], i342, v346, v352, v353 => some true
  | x363 :: xs, i342, v346, v352, v353 => law19_CuckooPlaces_B2 z356 z359 z360 (law19_CuckooPlaces_L2 z356 z359 z360 xs (i342 + 1)) x363 i342 v346 v352 v353
def law19_CuckooPlaces (x0 : (List Int)) : Option Bool :=
  (law19_sane).bind fun u1 => if ((!u1) = true) then (some false) else
(make_Few x0).bind fun u8 => if ((!u8) = true) then (some true) else
(make_New x0).bind fun u15 => (make_Hashing u15).bind fun u23 => (law19_items u23.2 u23.1.1).bind fun u38 => (cuckoo_Assign u23.1 u38.1).bind fun u55 => (lmk u23.1.1 false).bind fun u67 => (law19_possible u23.1 u38.1 u67).bind fun u77 => if (((decide (u55.2 = 0)) ≠ u77.1) ∨ ((u55.2 ≠ 0) ∧ (u55.2 ≠ 15))) then (some false) else
 if (u55.2 ≠ 0) then (some true) else
(cuckoo_Fits u23.1 u38.1 u55.1).bind fun u99 => if ((!u99) = true) then (some false) else
(lmk u23.1.1 false).bind fun u106 => law19_CuckooPlaces_L2 u38.1 u23.1.2 u55.1 u38.1 0 u106 u38.2.2 u23.1.1

def ref19_has_B1 (z20 : Int) (rec14 : Option Bool) (x24 : Int) : Option Bool :=
  if (x24 = z20) then (some true) else
 rec14
def ref19_has_L1 (z20 : Int) : (List Int) → Option Bool
  | [] => some false
  | x24 :: xs => ref19_has_B1 z20 (ref19_has_L1 z20 xs) x24 
def ref19_has (x0 : (List Int)) (x1 : Int) : Option Bool :=
  ref19_has_L1 x1 x0 

def ref19_Layout_B1 (rec251 : Int → (List (List Int)) → Int → Option ((List (List Int)) × Int)) (z427 : Int) (z429 : List Int) (z431 : Int) (rec410 : (List (List Int)) → Option ((List (List Int)) × Int)) (x434 : Int) (i410 : Nat) (v418 : List (List Int)) : Option ((List (List Int)) × Int) :=
  (lsub z429 0 (i410 : Int)).bind fun u439 => (ref19_has u439 x434).bind fun u445 => if ((!u445) = true) then ((lidx v418 x434).bind fun u451 => (lapp u451 ([z427] : List Int)).bind fun u471 => (lidx v418 x434).bind fun u474 => (lupd v418 x434 u471).bind fun u481 => rec410 u481) else
 rec410 v418
def ref19_Layout_L1 (rec251 : Int → (List (List Int)) → Int → Option ((List (List Int)) × Int)) (z427 : Int) (z429 : List Int) (z431 : Int) : (List Int) → Nat → (List (List Int)) → Option ((List (List Int)) × Int)
  | [], i410, v418 => rec251 (w64 (z427 + 1)) v418 z431
  | x434 :: xs, i410, v418 => ref19_Layout_B1 rec251 z427 z429 z431 (ref19_Layout_L1 rec251 z427 z429 z431 xs (i410 + 1)) x434 i410 v418
def ref19_Layout_B2 (z267 : Int) (z268 : List (Int × Int)) (rec251 : Int → (List (List Int)) → Int → Option ((List (List Int)) × Int)) (v256 : Int) (v257 : List (List Int)) (v264 : Int) : Option ((List (List Int)) × Int) :=
  if (v256 < z267) then ((ref19_Homes (v264, z268) v256).bind fun u273 => ref19_Layout_L1 rec251 v256 u273.1 v264 u273.1 0 v257) else
 some (v257, 0)
def ref19_Layout_L2 (z267 : Int) (z268 : List (Int × Int)) : Nat → Int → (List (List Int)) → Int → Option ((List (List Int)) × Int)
  | 0, _, _, _ => none
  | n + 1, v256, v257, v264 => ref19_Layout_B2 z267 z268 (ref19_Layout_L2 z267 z268 n) v256 v257 v264
def ref19_Layout (x0 : (Int × (List (Int × Int)))) (x1 : Int) : Option ((List (List Int)) × Int) :=
  (ref19_Check x0).bind fun u2 => if (u2 ≠ 0) then (some (([] : List (List Int)), u2)) else
 if ((x1 < 0) ∨ (1024 < x1)) then (some (([] : List (List Int)), 4)) else
(lmk x0.1 ([] : List Int)).bind fun u16 => ref19_Layout_L2 x1 x0.2 big 0 u16 x0.1

def ref19_Same_B1 (z31 : List Int) (rec24 : Option Bool) (x34 : Int) (i24 : Nat) : Option Bool :=
  (lidx z31 (i24 : Int)).bind fun u39 => if (x34 ≠ u39) then (some false) else
 rec24
def ref19_Same_L1 (z31 : List Int) : (List Int) → Nat → Option Bool
  | [], i24 => some true
  | x34 :: xs, i24 => ref19_Same_B1 z31 (ref19_Same_L1 z31 xs (i24 + 1)) x34 i24 
def ref19_Same (x0 : (List Int)) (x1 : (List Int)) : Option Bool :=
  if ((x0.length : Int) ≠ (x1.length : Int)) then (some false) else
 ref19_Same_L1 x1 x0 0 

def ref19_Fits_J1 (z214 : List Int) (v210 : Int) (v211 : Int) : Option Bool :=
  some (decide (v210 = (z214.length : Int)))
def ref19_Fits_B2 (kx212 : Int → Int → Option Bool) (z316 : List Int) (z319 : Int) (z321 : List (List Int)) (rec303 : Int → (List Bool) → Option Bool) (x323 : Int) (i303 : Nat) (v307 : Int) (v308 : List Bool) : Option Bool :=
  if (x323 = (-1)) then (rec303 v307 v308) else
(if ((x323 < 0) ∨ ((z316.length : Int) ≤ x323)) then (some true) else (lidx v308 x323).bind fun u395 => some u395).bind fun u342 => (if (u342 = true) then (some true) else (lidx z321 x323).bind fun u381 => (ref19_has u381 (i303 : Int)).bind fun u389 => some (!u389)).bind fun u361 => if (u361 = true) then (some false) else
(lidx v308 x323).bind fun u369 => (lupd v308 x323 true).bind fun u374 => rec303 (w64 (v307 + 1)) u374
def ref19_Fits_L2 (kx212 : Int → Int → Option Bool) (z316 : List Int) (z319 : Int) (z321 : List (List Int)) : (List Int) → Nat → Int → (List Bool) → Option Bool
  | [], i303, v307, v308 => kx212 v307 z319
  | x323 :: xs, i303, v307, v308 => ref19_Fits_B2 kx212 z316 z319 z321 (ref19_Fits_L2 kx212 z316 z319 z321 xs (i303 + 1)) x323 i303 v307 v308
def ref19_Fits (x0 : (Int × (List (Int × Int)))) (x1 : (List Int)) (x2 : (List Int)) : Option Bool :=
  (ref19_all x0 x1).bind fun u3 => if ((u3.2 ≠ 0) ∨ ((x2.length : Int) ≠ x0.1)) then (some false) else
(lmk (x1.length : Int) false).bind fun u23 => ref19_Fits_L2 (ref19_Fits_J1 x1) x1 x0.1 u3.1 x2 0 0 u23

def cuckoo_Spots_B1 (z174 : List (List Int)) (z179 : List Int) (rec162 : (List Int) → Option ((List Int) × Int)) (x181 : Int) (i162 : Nat) (v166 : List Int) : Option ((List Int) × Int) :=
  (slices_Index_Lintint z179 (i162 : Int)).bind fun u186 => (lidx z174 u186).bind fun u190 => (slices_Index_Lintint u190 x181).bind fun u198 => (lapp v166 ([u198] : List Int)).bind fun u209 => rec162 u209
def cuckoo_Spots_L1 (z174 : List (List Int)) (z179 : List Int) : (List Int) → Nat → (List Int) → Option ((List Int) × Int)
  | [], i162, v166 => some (v166, 0)
  | x181 :: xs, i162, v166 => cuckoo_Spots_B1 z174 z179 (cuckoo_Spots_L1 z174 z179 xs (i162 + 1)) x181 i162 v166
def cuckoo_Spots_J2 (z61 : List Int) (z62 : List (Int × Int)) (z63 : List Int) (v57 : Int) (v58 : Int) : Option ((List Int) × Int) :=
  (cuckoo_Fits (v58, z62) z61 z63).bind fun u64 => if ((!u64) = true) then (some (([] : List Int), 2)) else
(cuckoo_Layout (v58, z62) (w64 (v57 + 1))).bind fun u72 => cuckoo_Spots_L1 u72.1 z63 z61 0 ([] : List Int)
def cuckoo_Spots_B3 (kx59 : Int → Int → Option ((List Int) × Int)) (z243 : Int) (rec233 : Int → Option ((List Int) × Int)) (x246 : Int) (v237 : Int) : Option ((List Int) × Int) :=
  if ((x246 < 0) ∨ (1024 ≤ x246)) then (some (([] : List Int), 1)) else
 rec233 (max v237 x246)
def cuckoo_Spots_L3 (kx59 : Int → Int → Option ((List Int) × Int)) (z243 : Int) : (List Int) → Int → Option ((List Int) × Int)
  | [], v237 => kx59 v237 z243
  | x246 :: xs, v237 => cuckoo_Spots_B3 kx59 z243 (cuckoo_Spots_L3 kx59 z243 xs) x246 v237
def cuckoo_Spots (x0 : (Int × (List (Int × Int)))) (x1 : (List Int)) (x2 : (List Int)) : Option ((List Int) × Int) :=
  (cuckoo_Check x0).bind fun u3 => if (u3 ≠ 0) then (some (([] : List Int), u3)) else
 cuckoo_Spots_L3 (cuckoo_Spots_J2 x1 x0.2 x2) x0.1 x1 (-1)

def ref19_Spots_B1 (rec210 : (List Int) → Int → Option ((List Int) × Int)) (z298 : List Int) (z302 : Int) (z305 : Int) (rec285 : (List Int) → Option ((List Int) × Int)) (x308 : Int) (i285 : Nat) (v289 : List Int) : Option ((List Int) × Int) :=
  (if (0 ≤ z302) then ((lidx z298 z302).bind fun u339 => some (decide (x308 = u339))) else some false).bind fun u320 => if (u320 = true) then ((lidx v289 z302).bind fun u327 => (lupd v289 z302 (i285 : Int)).bind fun u332 => rec285 u332) else
 rec285 v289
def ref19_Spots_L1 (rec210 : (List Int) → Int → Option ((List Int) × Int)) (z298 : List Int) (z302 : Int) (z305 : Int) : (List Int) → Nat → (List Int) → Option ((List Int) × Int)
  | [], i285, v289 => rec210 v289 z305
  | x308 :: xs, i285, v289 => ref19_Spots_B1 rec210 z298 z302 z305 (ref19_Spots_L1 rec210 z298 z302 z305 xs (i285 + 1)) x308 i285 v289
def ref19_Spots_B2 (z223 : List Int) (z224 : List (List Int)) (rec210 : (List Int) → Int → Option ((List Int) × Int)) (x229 : Int) (i210 : Nat) (v214 : List Int) (v220 : Int) : Option ((List Int) × Int) :=
  (lidx z224 (i210 : Int)).bind fun u234 => ref19_Spots_L1 rec210 z223 x229 v220 u234 0 v214
def ref19_Spots_L2 (z223 : List Int) (z224 : List (List Int)) : (List Int) → Nat → (List Int) → Int → Option ((List Int) × Int)
  | [], i210, v214, v220 => some (v214, 0)
  | x229 :: xs, i210, v214, v220 => ref19_Spots_B2 z223 z224 (ref19_Spots_L2 z223 z224 xs (i210 + 1)) x229 i210 v214 v220
def ref19_Spots_J3 (z61 : List Int) (z62 : List (Int × Int)) (z63 : List Int) (v57 : Int) (v58 : Int) : Option ((List Int) × Int) :=
  (ref19_Fits (v58, z62) z61 z63).bind fun u64 => if ((!u64) = true) then (some (([] : List Int), 2)) else
(ref19_Layout (v58, z62) (w64 (v57 + 1))).bind fun u72 => (lmk (z61.length : Int) 0).bind fun u83 => ref19_Spots_L2 z61 u72.1 z63 0 u83 v58
def ref19_Spots_B4 (kx59 : Int → Int → Option ((List Int) × Int)) (z376 : Int) (rec366 : Int → Option ((List Int) × Int)) (x379 : Int) (v370 : Int) : Option ((List Int) × Int) :=
  if ((x379 < 0) ∨ (1024 ≤ x379)) then (some (([] : List Int), 1)) else
 rec366 (max v370 x379)
def ref19_Spots_L4 (kx59 : Int → Int → Option ((List Int) × Int)) (z376 : Int) : (List Int) → Int → Option ((List Int) × Int)
  | [], v370 => kx59 v370 z376
  | x379 :: xs, v370 => ref19_Spots_B4 kx59 z376 (ref19_Spots_L4 kx59 z376 xs) x379 v370
def ref19_Spots (x0 : (Int × (List (Int × Int)))) (x1 : (List Int)) (x2 : (List Int)) : Option ((List Int) × Int) :=
  (ref19_Check x0).bind fun u3 => if (u3 ≠ 0) then (some (([] : List Int), u3)) else
 ref19_Spots_L4 (ref19_Spots_J3 x1 x0.2 x2) x0.1 x1 (-1)

def law19_CuckooDoes_B1 (rec3821 : Int → (List Int) → Int → Int → Int → Option Bool) (z4090 : List Int) (z4093 : List Int) (z4094 : Int) (z4097 : Int) (z4098 : List (Int × Int)) (z4099 : Int) (z4101 : Int) (rec4072 : Option Bool) (x4110 : (List Int)) : Option Bool :=
  (cuckoo_Fits (z4097, z4098) z4090 x4110).bind fun u4119 => (ref19_Fits (z4097, z4098) z4090 x4110).bind fun u4123 => if (u4119 ≠ u4123) then (some false) else
(cuckoo_Spots (z4097, z4098) z4090 x4110).bind fun u4130 => (ref19_Spots (z4097, z4098) z4090 x4110).bind fun u4139 => (if (u4130.2 ≠ u4139.2) then (some true) else (ref04_Same u4130.1 u4139.1).bind fun u4188 => some (!u4188)).bind fun u4178 => if (u4178 = true) then (some false) else
 rec4072
def law19_CuckooDoes_L1 (rec3821 : Int → (List Int) → Int → Int → Int → Option Bool) (z4090 : List Int) (z4093 : List Int) (z4094 : Int) (z4097 : Int) (z4098 : List (Int × Int)) (z4099 : Int) (z4101 : Int) : (List (List Int)) → Option Bool
  | [] => rec3821 z4097 z4093 z4094 z4099 z4101
  | x4110 :: xs => law19_CuckooDoes_B1 rec3821 z4090 z4093 z4094 z4097 z4098 z4099 z4101 (law19_CuckooDoes_L1 rec3821 z4090 z4093 z4094 z4097 z4098 z4099 z4101 xs) x4110 
def law19_CuckooDoes_J2 (rec3821 : Int → (List Int) → Int → Int → Int → Option Bool) (z3959 : List Int) (z3960 : List Int) (z3962 : Int) (z3963 : List (Int × Int)) (z3964 : Int) (z3966 : Int) (z3968 : List Int) (v3938 : List Int) (v3944 : List Int) (v3948 : Int) : Option Bool :=
  law19_CuckooDoes_L1 rec3821 z3959 v3944 v3948 z3962 z3963 z3964 z3966 ([z3968, z3960, v3938] : List (List Int)) 
def law19_CuckooDoes_B3 (rec3027 : (List Int) → Int → Int → Int → Option Bool) (z3846 : List (Int × Int)) (z3849 : List Int) (rec3821 : Int → (List Int) → Int → Int → Int → Option Bool) (x3855 : (List Int)) (v3829 : Int) (v3830 : List Int) (v3834 : Int) (v3835 : Int) (v3836 : Int) : Option Bool :=
  (cuckoo_Assign (v3829, z3846) x3855).bind fun u3863 => (ref19_Assign (v3829, z3846) x3855).bind fun u3875 => (if (u3863.2 ≠ u3875.2) then (some true) else (ref19_Same u3863.1 u3875.1).bind fun u4222 => some (!u4222)).bind fun u3893 => if (u3893 = true) then (some false) else
(lapp ([] : List Int) u3875.1).bind fun u3906 => if (0 < (u3906.length : Int)) then ((make_Deck_Next (v3830, v3834) (u3906.length : Int)).bind fun u4195 => (make_Deck_Next u4195.2 (w64 ((x3855.length : Int) + 2))).bind fun u4202 => (lidx u3906 u4195.1).bind fun u4209 => (lupd u3906 u4195.1 (w64 (u4202.1 - 1))).bind fun u4214 => (law19_CuckooDoes_J2 rec3821 x3855 u3875.1 v3829 z3846 v3835 v3836 z3849) u4214 u4202.2.1 u4202.2.2) else
(law19_CuckooDoes_J2 rec3821 x3855 u3875.1 v3829 z3846 v3835 v3836 z3849) u3906 v3830 v3834
def law19_CuckooDoes_L3 (rec3027 : (List Int) → Int → Int → Int → Option Bool) (z3846 : List (Int × Int)) (z3849 : List Int) : (List (List Int)) → Int → (List Int) → Int → Int → Int → Option Bool
  | [], v3829, v3830, v3834, v3835, v3836 => rec3027 v3830 v3834 v3835 v3836
  | x3855 :: xs, v3829, v3830, v3834, v3835, v3836 => law19_CuckooDoes_B3 rec3027 z3846 z3849 (law19_CuckooDoes_L3 rec3027 z3846 z3849 xs) x3855 v3829 v3830 v3834 v3835 v3836
def law19_CuckooDoes_J4 (rec3027 : (List Int) → Int → Int → Int → Option Bool) (z3427 : List Int) (z3430 : List Int) (z3432 : List (Int × Int)) (z3433 : List Int) (z3436 : List Int) (v3420 : Int) (v3421 : Int) (v3422 : Int) (v3423 : Int) : Option Bool :=
  law19_CuckooDoes_L3 rec3027 z3432 z3436 ([z3427, z3430] : List (List Int)) v3420 z3433 v3421 v3422 v3423
def law19_CuckooDoes_B5 (kx3424 : Int → Int → Int → Int → Option Bool) (z4300 : Int) (z4301 : List (Int × Int)) (z4303 : Int) (z4304 : Int) (z4306 : Int) (rec4283 : Option Bool) (x4313 : Int) : Option Bool :=
  (cuckoo_Layout (z4300, z4301) x4313).bind fun u4318 => (ref19_Layout (z4300, z4301) x4313).bind fun u4329 => (if (u4318.2 ≠ u4329.2) then (some true) else (ref04_SameRows u4318.1 u4329.1).bind fun u4356 => some (!u4356)).bind fun u4346 => if (u4346 = true) then (some false) else
 rec4283
def law19_CuckooDoes_L5 (kx3424 : Int → Int → Int → Int → Option Bool) (z4300 : Int) (z4301 : List (Int × Int)) (z4303 : Int) (z4304 : Int) (z4306 : Int) : (List Int) → Option Bool
  | [] => kx3424 z4300 z4303 z4304 z4306
  | x4313 :: xs => law19_CuckooDoes_B5 kx3424 z4300 z4301 z4303 z4304 z4306 (law19_CuckooDoes_L5 kx3424 z4300 z4301 z4303 z4304 z4306 xs) x4313 
def law19_CuckooDoes_J6 (rec3027 : (List Int) → Int → Int → Int → Option Bool) (z3264 : List Int) (z3265 : Int) (z3267 : List Int) (z3269 : List (Int × Int)) (z3270 : List Int) (z3273 : List Int) (v3257 : Int) (v3258 : Int) (v3259 : Int) (v3260 : Int) : Option Bool :=
  (make_Mod z3265 40).bind fun u3276 => law19_CuckooDoes_L5 (law19_CuckooDoes_J4 rec3027 z3264 z3267 z3269 z3270 z3273) v3257 z3269 v3258 v3259 v3260 ([z3265, u3276] : List Int) 
def law19_CuckooDoes_B7 (kx3261 : Int → Int → Int → Int → Option Bool) (z4454 : Int) (z4455 : List (Int × Int)) (z4457 : Int) (z4458 : Int) (z4460 : Int) (rec4437 : Option Bool) (x4466 : Int) : Option Bool :=
  (cuckoo_Homes (z4454, z4455) x4466).bind fun u4471 => (ref19_Homes (z4454, z4455) x4466).bind fun u4480 => (if (u4471.2 ≠ u4480.2) then (some true) else (ref04_Same u4471.1 u4480.1).bind fun u4529 => some (!u4529)).bind fun u4519 => if (u4519 = true) then (some false) else
 rec4437
def law19_CuckooDoes_L7 (kx3261 : Int → Int → Int → Int → Option Bool) (z4454 : Int) (z4455 : List (Int × Int)) (z4457 : Int) (z4458 : Int) (z4460 : Int) : (List Int) → Option Bool
  | [] => kx3261 z4454 z4457 z4458 z4460
  | x4466 :: xs => law19_CuckooDoes_B7 kx3261 z4454 z4455 z4457 z4458 z4460 (law19_CuckooDoes_L7 kx3261 z4454 z4455 z4457 z4458 z4460 xs) x4466 
def law19_CuckooDoes_B8 (z3044 : List Int) (z3045 : Int) (z3046 : Int) (z3047 : List Int) (z3051 : List Int) (rec3027 : (List Int) → Int → Int → Int → Option Bool) (x3054 : (Int × (List (Int × Int)))) (v3035 : List Int) (v3039 : Int) (v3040 : Int) (v3041 : Int) : Option Bool :=
  (cuckoo_Check x3054).bind fun u3063 => (ref19_Check x3054).bind fun u3067 => if (u3063 ≠ u3067) then (some false) else
(make_Mod z3046 2147483647).bind fun u3074 => law19_CuckooDoes_L7 (law19_CuckooDoes_J6 rec3027 z3044 z3045 z3047 x3054.2 v3035 z3051) x3054.1 x3054.2 v3039 v3040 v3041 ([z3046, u3074] : List Int) 
def law19_CuckooDoes_L8 (z3044 : List Int) (z3045 : Int) (z3046 : Int) (z3047 : List Int) (z3051 : List Int) : (List (Int × (List (Int × Int)))) → (List Int) → Int → Int → Int → Option Bool
  | [], v3035, v3039, v3040, v3041 => some true
  | x3054 :: xs, v3035, v3039, v3040, v3041 => law19_CuckooDoes_B8 z3044 z3045 z3046 z3047 z3051 (law19_CuckooDoes_L8 z3044 z3045 z3046 z3047 z3051 xs) x3054 v3035 v3039 v3040 v3041
def law19_CuckooDoes (x0 : (List Int)) (x1 : (Int × (List (Int × Int)))) (x2 : (List Int)) (x3 : Int) (x4 : Int) (x5 : (List Int)) : Option Bool :=
  (law19_sane).bind fun u3 => if ((!u3) = true) then (some false) else
(make_Few x0).bind fun u10 => if (((((!u10) = true) ∨ (20 < (x1.2.length : Int))) ∨ (80 < (x2.length : Int))) ∨ (200 < (x5.length : Int))) then (some true) else
(make_New x0).bind fun u29 => (make_Hashing u29).bind fun u37 => (law19_items u37.2 u37.1.1).bind fun u52 => law19_CuckooDoes_L8 x2 x3 x4 u52.1 x5 ([x1, u37.1] : List (Int × (List (Int × Int)))) u52.2.1 u52.2.2 u37.1.1 x1.1

def law19_CuckooSpots_B1 (z2189 : Int) (z2190 : Int) (z2191 : List (List Int)) (z2192 : List Int) (z2193 : List Int) (rec2183 : Option Bool) (x2201 : Int) (i2183 : Nat) : Option Bool :=
  (if (0 ≤ x2201) then ((lidx z2193 x2201).bind fun u2312 => (if (u2312 < 0) then (some true) else (lidx z2193 x2201).bind fun u2394 => (lidx z2191 (i2183 : Int)).bind fun u2399 => some (decide ((u2399.length : Int) ≤ u2394))).bind fun u2332 => (if (u2332 = true) then (some true) else (lidx z2191 (i2183 : Int)).bind fun u2369 => (lidx z2193 x2201).bind fun u2377 => (lidx u2369 u2377).bind fun u2382 => (lidx z2192 x2201).bind fun u2387 => some (decide (u2382 ≠ u2387))).bind fun u2362 => some u2362) else some false).bind fun u2303 => if (u2303 = true) then (some false) else
 rec2183
def law19_CuckooSpots_L1 (z2189 : Int) (z2190 : Int) (z2191 : List (List Int)) (z2192 : List Int) (z2193 : List Int) : (List Int) → Nat → Option Bool
  | [], i2183 => some (decide (z2189 = z2190))
  | x2201 :: xs, i2183 => law19_CuckooSpots_B1 z2189 z2190 z2191 z2192 z2193 (law19_CuckooSpots_L1 z2189 z2190 z2191 z2192 z2193 xs (i2183 + 1)) x2201 i2183 
def law19_CuckooSpots_J2 (z1686 : Int) (z1687 : List (List Int)) (z1688 : List (Int × Int)) (z1689 : List Int) (v1681 : Int) (v1682 : Int) (v1683 : Int) : Option Bool :=
  (law19_items (z1689, v1683) v1682).bind fun u1690 => (cuckoo_Assign (v1682, z1688) u1690.1).bind fun u1707 => if (u1707.2 ≠ 0) then (some (decide ((v1681 = z1686) ∧ (u1707.2 = 15)))) else
(cuckoo_Spots (v1682, z1688) u1690.1 u1707.1).bind fun u1726 => if ((u1726.2 ≠ 0) ∨ ((u1726.1.length : Int) ≠ (u1690.1.length : Int))) then (some false) else
 law19_CuckooSpots_L1 v1681 z1686 z1687 u1690.1 u1726.1 u1707.1 0 
def law19_CuckooSpots_B3 (kx1684 : Int → Int → Int → Option Bool) (z2435 : Int) (z2438 : Int) (rec2425 : Int → Option Bool) (x2440 : (List Int)) (v2429 : Int) : Option Bool :=
  rec2425 (w64 (v2429 + (x2440.length : Int)))
def law19_CuckooSpots_L3 (kx1684 : Int → Int → Int → Option Bool) (z2435 : Int) (z2438 : Int) : (List (List Int)) → Int → Option Bool
  | [], v2429 => kx1684 v2429 z2435 z2438
  | x2440 :: xs, v2429 => law19_CuckooSpots_B3 kx1684 z2435 z2438 (law19_CuckooSpots_L3 kx1684 z2435 z2438 xs) x2440 v2429
def law19_CuckooSpots_J4 (z1639 : List (List Int)) (z1640 : List (Int × Int)) (z1641 : List Int) (v1634 : Int) (v1635 : Int) (v1636 : Int) : Option Bool :=
  law19_CuckooSpots_L3 (law19_CuckooSpots_J2 v1634 z1639 z1640 z1641) v1635 v1636 z1639 0
def law19_CuckooSpots_J5 (rec3763 : Int → Int → Int → Option Bool) (z3911 : Bool) (z3912 : Int) (v3906 : Bool) (v3907 : Int) (v3908 : Int) : Option Bool :=
  if ((!v3906) = true) then (some false) else
 if (z3911 = true) then (rec3763 (w64 (z3912 + 1)) v3907 v3908) else
 rec3763 z3912 v3907 v3908
def law19_CuckooSpots_B6 (kx3909 : Bool → Int → Int → Option Bool) (z3954 : Int) (z3960 : Int) (z3963 : Int) (rec3944 : Bool → Option Bool) (x3965 : Int) (v3948 : Bool) : Option Bool :=
  rec3944 (decide ((v3948 = true) ∨ (x3965 = z3954)))
def law19_CuckooSpots_L6 (kx3909 : Bool → Int → Int → Option Bool) (z3954 : Int) (z3960 : Int) (z3963 : Int) : (List Int) → Bool → Option Bool
  | [], v3948 => kx3909 v3948 z3960 z3963
  | x3965 :: xs, v3948 => law19_CuckooSpots_B6 kx3909 z3954 z3960 z3963 (law19_CuckooSpots_L6 kx3909 z3954 z3960 z3963 xs) x3965 v3948
def law19_CuckooSpots_J7 (rec3763 : Int → Int → Int → Option Bool) (z3842 : Int) (z3844 : Int) (z3845 : List (List Int)) (z3848 : Int) (v3837 : Bool) (v3838 : Int) (v3839 : Int) : Option Bool :=
  (lidx z3845 z3848).bind fun u3851 => law19_CuckooSpots_L6 (law19_CuckooSpots_J5 rec3763 v3837 z3842) z3844 v3838 v3839 u3851 false
def law19_CuckooSpots_B8 (kx3840 : Bool → Int → Int → Option Bool) (z4005 : Int) (z4008 : Int) (z4011 : Int) (rec3992 : Bool → Option Bool) (x4013 : Int) (v3996 : Bool) : Option Bool :=
  rec3992 (decide ((v3996 = true) ∧ (x4013 ≠ z4005)))
def law19_CuckooSpots_L8 (kx3840 : Bool → Int → Int → Option Bool) (z4005 : Int) (z4008 : Int) (z4011 : Int) : (List Int) → Bool → Option Bool
  | [], v3996 => kx3840 v3996 z4008 z4011
  | x4013 :: xs, v3996 => law19_CuckooSpots_B8 kx3840 z4005 z4008 z4011 (law19_CuckooSpots_L8 kx3840 z4005 z4008 z4011 xs) x4013 v3996
def law19_CuckooSpots_B9 (rec3231 : Int → Int → Int → Int → Option Bool) (z3772 : Int) (z3773 : List (List Int)) (z3774 : List Int) (rec3763 : Int → Int → Int → Option Bool) (x3779 : Int) (i3763 : Nat) (v3767 : Int) (v3768 : Int) (v3769 : Int) : Option Bool :=
  (lsub z3774 0 (i3763 : Int)).bind fun u3784 => law19_CuckooSpots_L8 (law19_CuckooSpots_J7 rec3763 v3767 z3772 z3773 x3779) x3779 v3768 v3769 u3784 true
def law19_CuckooSpots_L9 (rec3231 : Int → Int → Int → Int → Option Bool) (z3772 : Int) (z3773 : List (List Int)) (z3774 : List Int) : (List Int) → Nat → Int → Int → Int → Option Bool
  | [], i3763, v3767, v3768, v3769 => rec3231 v3767 (w64 (z3772 + 1)) v3768 v3769
  | x3779 :: xs, i3763, v3767, v3768, v3769 => law19_CuckooSpots_B9 rec3231 z3772 z3773 z3774 (law19_CuckooSpots_L9 rec3231 z3772 z3773 z3774 xs (i3763 + 1)) x3779 i3763 v3767 v3768 v3769
def law19_CuckooSpots_B10 (kx1637 : Int → Int → Int → Option Bool) (z3242 : List (List Int)) (z3243 : List (Int × Int)) (rec3231 : Int → Int → Int → Int → Option Bool) (v3236 : Int) (v3237 : Int) (v3238 : Int) (v3239 : Int) : Option Bool :=
  if (v3237 < 30) then ((cuckoo_Homes (v3238, z3243) v3237).bind fun u3249 => if ((u3249.2 ≠ 0) ∨ ((u3249.1.length : Int) ≠ (z3243.length : Int))) then (some false) else
 law19_CuckooSpots_L9 rec3231 v3237 z3242 u3249.1 u3249.1 0 v3236 v3238 v3239) else
 kx1637 v3236 v3238 v3239
def law19_CuckooSpots_L10 (kx1637 : Int → Int → Int → Option Bool) (z3242 : List (List Int)) (z3243 : List (Int × Int)) : Nat → Int → Int → Int → Int → Option Bool
  | 0, _, _, _, _ => none
  | n + 1, v3236, v3237, v3238, v3239 => law19_CuckooSpots_B10 kx1637 z3242 z3243 (law19_CuckooSpots_L10 kx1637 z3242 z3243 n) v3236 v3237 v3238 v3239
def law19_CuckooSpots (x0 : (List Int)) : Option Bool :=
  (law19_sane).bind fun u1 => if ((!u1) = true) then (some false) else
(make_Few x0).bind fun u8 => if ((!u8) = true) then (some true) else
(make_New x0).bind fun u15 => (make_Hashing u15).bind fun u23 => (cuckoo_Layout u23.1 30).bind fun u38 => if ((u38.2 ≠ 0) ∨ ((u38.1.length : Int) ≠ u23.1.1)) then (some false) else
 law19_CuckooSpots_L10 (law19_CuckooSpots_J4 u38.1 u23.1.2 u23.2.1) u38.1 u23.1.2 big 0 0 u23.1.1 u23.2.2

end Go.Proofs.Ytbhmhindommaeaa
