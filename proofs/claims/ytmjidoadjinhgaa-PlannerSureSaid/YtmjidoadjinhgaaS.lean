/- The lifted functions. Printed by wip/lift/drive.py. -/
import Derived.Test.YtmjidoadjinhgaaP1
import Derived.Test.YtmjidoadjinhgaaK19
namespace Go.Proofs.Ytmjidoadjinhgaa
set_option linter.unusedVariables false
set_option synthInstance.maxSize 2000
set_option synthInstance.maxHeartbeats 400000

def planner_within (x0 : Int) (x1 : Int) (x2 : Int) : Option Bool :=
  some (decide ((x1 ≤ x0) ∧ (x0 ≤ x2)))

def planner_Valid_J1 (v120 : Int) (v121 : Int) (v122 : Int) (v123 : Int) (v124 : Int) (v125 : Int) (v126 : Int) (v127 : Int) (v128 : Int) (v129 : Int) : Option Bool :=
  (planner_within v120 2 10).bind fun u132 => (if (u132 = true) then ((planner_within v124 1 1024).bind fun u182 => some u182) else some false).bind fun u142 => (if (u142 = true) then ((planner_within v125 1 64).bind fun u176 => some u176) else some false).bind fun u153 => (if (u153 = true) then ((planner_within v126 1 16).bind fun u170 => some u170) else some false).bind fun u164 => some u164
def planner_Valid_B2 (kx130 : Int → Int → Int → Int → Int → Int → Int → Int → Int → Int → Option Bool) (z217 : Int) (z218 : Int) (z219 : Int) (z220 : Int) (z221 : Int) (z222 : Int) (z223 : Int) (z224 : Int) (z225 : Int) (z226 : Int) (rec213 : Int → Option Bool) (v214 : Int) : Option Bool :=
  if (v214 < 3) then ((lidx ([z217, z218, z219] : List Int) v214).bind fun u231 => (planner_within u231 0 1048576).bind fun u233 => if ((!u233) = true) then (some false) else
 rec213 (w64 (v214 + 1))) else
 kx130 z220 z221 z222 z223 z224 z225 z226 z217 z218 z219
def planner_Valid_L2 (kx130 : Int → Int → Int → Int → Int → Int → Int → Int → Int → Int → Option Bool) (z217 : Int) (z218 : Int) (z219 : Int) (z220 : Int) (z221 : Int) (z222 : Int) (z223 : Int) (z224 : Int) (z225 : Int) (z226 : Int) : Nat → Int → Option Bool
  | 0, _ => none
  | n + 1, v214 => planner_Valid_B2 kx130 z217 z218 z219 z220 z221 z222 z223 z224 z225 z226 (planner_Valid_L2 kx130 z217 z218 z219 z220 z221 z222 z223 z224 z225 z226 n) v214
def planner_Valid_J3 (v55 : Int) (v56 : Int) (v57 : Int) (v58 : Int) (v59 : Int) (v60 : Int) (v61 : Int) (v62 : Int) (v63 : Int) (v64 : Int) : Option Bool :=
  planner_Valid_L2 planner_Valid_J1 v62 v63 v64 v55 v56 v57 v58 v59 v60 v61 big 0
def planner_Valid_B4 (kx65 : Int → Int → Int → Int → Int → Int → Int → Int → Int → Int → Option Bool) (z271 : Int) (z272 : Int) (z273 : Int) (z274 : Int) (z275 : Int) (z276 : Int) (z277 : Int) (z278 : Int) (z279 : Int) (z280 : Int) (rec267 : Int → Option Bool) (v268 : Int) : Option Bool :=
  if (v268 < 3) then ((lidx ([z271, z272, z273] : List Int) v268).bind fun u285 => (planner_within u285 0 z274).bind fun u287 => if ((!u287) = true) then (some false) else
 rec267 (w64 (v268 + 1))) else
 kx65 z274 z271 z272 z273 z275 z276 z277 z278 z279 z280
def planner_Valid_L4 (kx65 : Int → Int → Int → Int → Int → Int → Int → Int → Int → Int → Option Bool) (z271 : Int) (z272 : Int) (z273 : Int) (z274 : Int) (z275 : Int) (z276 : Int) (z277 : Int) (z278 : Int) (z279 : Int) (z280 : Int) : Nat → Int → Option Bool
  | 0, _ => none
  | n + 1, v268 => planner_Valid_B4 kx65 z271 z272 z273 z274 z275 z276 z277 z278 z279 z280 (planner_Valid_L4 kx65 z271 z272 z273 z274 z275 z276 z277 z278 z279 z280 n) v268
def planner_Valid (x0 : (Int × Int × Int × Int × Int × Int × Int × (Int × Int × Int))) : Option Bool :=
  planner_Valid_L4 planner_Valid_J3 x0.2.1 x0.2.2.1 x0.2.2.2.1 x0.1 x0.2.2.2.2.1 x0.2.2.2.2.2.1 x0.2.2.2.2.2.2.1 x0.2.2.2.2.2.2.2.1 x0.2.2.2.2.2.2.2.2.1 x0.2.2.2.2.2.2.2.2.2 big 0

def scheme_within (x0 : Int) (x1 : Int) (x2 : Int) : Option Bool :=
  some (decide ((x1 ≤ x0) ∧ (x0 ≤ x2)))

def scheme_Shape (x0 : (Int × Int × Int × Int)) : Option Bool :=
  (scheme_within x0.2.1 2 10).bind fun u2 => if ((!u2) = true) then (some false) else
 if (x0.1 = 1) then (some (decide ((x0.2.2.1 = 0) ∧ (x0.2.2.2 = 0)))) else
 if (x0.1 = 2) then ((scheme_within x0.2.2.1 1 (w64 (x0.2.1 - 1))).bind fun u18 => some (decide ((u18 = true) ∧ (x0.2.2.2 = 0)))) else
 if (x0.1 = 3) then ((scheme_within x0.2.2.1 1 x0.2.1).bind fun u29 => (if (u29 = true) then ((scheme_within x0.2.2.2 1 x0.2.1).bind fun u49 => some u49) else some false).bind fun u39 => some (decide ((u39 = true) ∧ ((w64 ((w64 ((w64 (2 * x0.2.2.2)) + x0.2.2.1)) - 1)) ≤ x0.2.1)))) else
 some false

def scheme_Threshold (x0 : (Int × Int × Int × Int)) : Option Int :=
  (scheme_Shape x0).bind fun u2 => if ((!u2) = true) then (some 0) else
 if (x0.1 = 1) then (some (w64 (x0.2.1 - 1))) else
 some x0.2.2.1

def scheme_Need (x0 : (Int × Int × Int × Int)) : Option Int :=
  (scheme_Shape x0).bind fun u2 => if ((!u2) = true) then (some 0) else
 some ((mget (mput (mput (mput ([] : List (Int × Int)) 1 x0.2.1) 2 (w64 (x0.2.2.1 + 1))) 3 (w64 ((w64 ((w64 (2 * x0.2.2.2)) + x0.2.2.1)) - 1))) x0.1).getD 0)

def scheme_Bears (x0 : (Int × Int × Int × Int)) (x1 : Int) (x2 : Int) : Option Bool :=
  (scheme_Shape x0).bind fun u2 => (if (u2 = true) then ((scheme_within x1 0 x0.2.1).bind fun u52 => some u52) else some false).bind fun u12 => (if (u12 = true) then ((scheme_within x2 0 x0.2.1).bind fun u46 => some u46) else some false).bind fun u23 => (if (u23 = true) then ((scheme_Need x0).bind fun u40 => some (decide ((w64 ((w64 (u40 + x1)) + (w64 (2 * x2)))) ≤ x0.2.1))) else some false).bind fun u34 => some u34

def planner_Serves (x0 : (Int × Int × Int × Int)) (x1 : (Int × Int × Int × Int × Int × Int × Int × (Int × Int × Int))) : Option Bool :=
  (planner_Valid x1).bind fun u3 => (if (u3 = true) then ((scheme_Shape x0).bind fun u57 => some u57) else some false).bind fun u13 => (if ((u13 = true) ∧ (x0.2.1 = x1.1)) then ((scheme_Threshold x0).bind fun u51 => some (decide (x1.2.1 ≤ u51))) else some false).bind fun u28 => (if (u28 = true) then ((scheme_Bears x0 x1.2.2.1 x1.2.2.2.1).bind fun u45 => some u45) else some false).bind fun u39 => some u39

def planner_schemes_f1_B1 (rec75 : Int → Option (List (Int × Int × Int × Int))) (z106 : Int) (z107 : Int) (rec98 : Int → Option (List (Int × Int × Int × Int))) (v103 : Int) : Option (List (Int × Int × Int × Int)) :=
  if (v103 < z107) then (yc (3, z107, v103, z106) <| rec98 (w64 (v103 + 1))) else
 rec75 (w64 (z106 + 1))
def planner_schemes_f1_L1 (rec75 : Int → Option (List (Int × Int × Int × Int))) (z106 : Int) (z107 : Int) : Nat → Int → Option (List (Int × Int × Int × Int))
  | 0, _ => none
  | n + 1, v103 => planner_schemes_f1_B1 rec75 z106 z107 (planner_schemes_f1_L1 rec75 z106 z107 n) v103
def planner_schemes_f1_B2 (z83 : Int) (rec75 : Int → Option (List (Int × Int × Int × Int))) (v80 : Int) : Option (List (Int × Int × Int × Int)) :=
  if (v80 < z83) then (planner_schemes_f1_L1 rec75 v80 z83 big 0) else
 some []
def planner_schemes_f1_L2 (z83 : Int) : Nat → Int → Option (List (Int × Int × Int × Int))
  | 0, _ => none
  | n + 1, v80 => planner_schemes_f1_B2 z83 (planner_schemes_f1_L2 z83 n) v80
def planner_schemes_f1_J3 (z39 : Int) : Option (List (Int × Int × Int × Int)) :=
  planner_schemes_f1_L2 z39 big 0
def planner_schemes_f1_B4 (kx37 : Option (List (Int × Int × Int × Int))) (z137 : Int) (rec129 : Int → Option (List (Int × Int × Int × Int))) (v134 : Int) : Option (List (Int × Int × Int × Int)) :=
  if (v134 < z137) then (yc (2, z137, v134, 0) <| rec129 (w64 (v134 + 1))) else
 kx37
def planner_schemes_f1_L4 (kx37 : Option (List (Int × Int × Int × Int))) (z137 : Int) : Nat → Int → Option (List (Int × Int × Int × Int))
  | 0, _ => none
  | n + 1, v134 => planner_schemes_f1_B4 kx37 z137 (planner_schemes_f1_L4 kx37 z137 n) v134
def planner_schemes_f1 (x1 : Int) : Option ((List (Int × Int × Int × Int))) :=
  yc (1, x1, 0, 0) <| planner_schemes_f1_L4 (planner_schemes_f1_J3 x1) x1 big 0

def planner_schemes (x0 : Int) : Option (List (Int × Int × Int × Int)) :=
  (planner_schemes_f1 x0).bind fun u7 => some u7

def scheme_storage (x0 : (Int × Int × Int × Int)) : Option (Int × Int × Int) :=
  some x0.2

def scheme_groups_units (x0 : (Int × Int × Int)) (x1 : Int) : Option Int :=
  (nz x0.2.2).bind fun _ => some (w64 (Int.tdiv (w64 ((w64 (x1 + x0.2.2)) - 1)) x0.2.2))

def scheme_Units (x0 : (Int × Int × Int × Int)) (x1 : Int) : Option Int :=
  (scheme_Shape x0).bind fun u2 => (if ((!u2) = true) then (some true) else (scheme_within x1 1 1024).bind fun u33 => some (!u33)).bind fun u12 => if (u12 = true) then (some 0) else
 if (x0.1 = 3) then ((scheme_storage x0).bind fun u22 => (scheme_groups_units u22 x1).bind fun u26 => some u26) else
 some x1

def cost_Units (x0 : (Int × Int × Int × Int)) (x1 : Int) : Option (Int × Int) :=
  (scheme_Shape x0).bind fun u2 => if ((!u2) = true) then (some (0, 40)) else
 if ((x1 < 1) ∨ (1024 < x1)) then (some (0, 1)) else
(scheme_Units x0 x1).bind fun u16 => some (u16, 0)

def cost_Of (x0 : (Int × Int × Int × Int)) (x1 : Int) (x2 : Int) (x3 : Int) : Option ((Int × Int × Int) × Int) :=
  (cost_Units x0 x1).bind fun u3 => if (u3.2 ≠ 0) then (some ((0, 0, 0), u3.2)) else
 if ((((x2 < 1) ∨ (64 < x2)) ∨ (x3 < 1)) ∨ (16 < x3)) then (some ((0, 0, 0), 1)) else
 some (((w64 ((w64 (x3 * x0.2.1)) * u3.1)), (w64 ((w64 (x3 * x0.2.1)) * x2)), (w64 ((w64 ((w64 (x3 * x0.2.1)) * u3.1)) * x2))), 0)

def cost_each (x0 : (Int × Int × Int)) (x1 : (Int × Int × Int)) (x2 : Int → Int → Option Int) : Option (Int × Int × Int) :=
  (x2 x0.1 x1.1).bind fun u4 => (x2 x0.2.1 x1.2.1).bind fun u8 => (x2 x0.2.2 x1.2.2).bind fun u12 => some (u4, u8, u12)

def cost_Sum_f1 (x0 : Int) (x1 : Int) : Option Int :=
  some (w64 (x0 * x1))

def cost_Sum (x0 : (Int × Int × Int)) (x1 : (Int × Int × Int)) : Option Int :=
  (cost_each x0 x1 cost_Sum_f1).bind fun u3 => some (w64 ((w64 (u3.1 + u3.2.1)) + u3.2.2))

def planner_Candidates_J1 (v168 : List ((Int × Int × Int × Int) × (Int × Int × Int) × Int)) : Option ((List ((Int × Int × Int × Int) × (Int × Int × Int) × Int)) × Int) :=
  some (v168, 0)
def planner_Candidates_B2 (kx174 : (List ((Int × Int × Int × Int) × (Int × Int × Int) × Int)) → Option ((List ((Int × Int × Int × Int) × (Int × Int × Int) × Int)) × Int)) (z263 : Int) (z264 : Int) (z265 : Int) (z266 : Int) (z267 : Int) (z268 : Int) (z269 : Int) (z270 : Int) (z271 : Int) (z272 : Int) (rec282 : (List ((Int × Int × Int × Int) × (Int × Int × Int) × Int)) → Option ((List ((Int × Int × Int × Int) × (Int × Int × Int) × Int)) × Int)) (x294 : (Int × Int × Int × Int)) (v276 : List ((Int × Int × Int × Int) × (Int × Int × Int) × Int)) : Option ((List ((Int × Int × Int × Int) × (Int × Int × Int) × Int)) × Int) :=
  (planner_Serves x294 (z263, z264, z265, z266, z267, z268, z269, (z270, z271, z272))).bind fun u302 => if ((!u302) = true) then (rec282 v276) else
(cost_Of x294 z267 z268 z269).bind fun u309 => (cost_Sum u309.1 (z270, z271, z272)).bind fun u314 => (lapp v276 ([((x294.1, x294.2.1, x294.2.2.1, x294.2.2.2), (u309.1.1, u309.1.2.1, u309.1.2.2), u314)] : List ((Int × Int × Int × Int) × (Int × Int × Int) × Int))).bind fun u325 => rec282 u325
def planner_Candidates_L2 (kx174 : (List ((Int × Int × Int × Int) × (Int × Int × Int) × Int)) → Option ((List ((Int × Int × Int × Int) × (Int × Int × Int) × Int)) × Int)) (z263 : Int) (z264 : Int) (z265 : Int) (z266 : Int) (z267 : Int) (z268 : Int) (z269 : Int) (z270 : Int) (z271 : Int) (z272 : Int) : List (Int × Int × Int × Int) → (List ((Int × Int × Int × Int) × (Int × Int × Int) × Int)) → Option ((List ((Int × Int × Int × Int) × (Int × Int × Int) × Int)) × Int)
  | [], v276 => kx174 v276
  | x294 :: xs, v276 => planner_Candidates_B2 kx174 z263 z264 z265 z266 z267 z268 z269 z270 z271 z272 (planner_Candidates_L2 kx174 z263 z264 z265 z266 z267 z268 z269 z270 z271 z272 xs) x294 v276
def planner_Candidates (x0 : (Int × Int × Int × Int × Int × Int × Int × (Int × Int × Int))) : Option ((List ((Int × Int × Int × Int) × (Int × Int × Int) × Int)) × Int) :=
  (planner_Valid x0).bind fun u2 => if ((!u2) = true) then (some (([] : List ((Int × Int × Int × Int) × (Int × Int × Int) × Int)), 42)) else
(planner_schemes x0.1).bind fun u11 => planner_Candidates_L2 planner_Candidates_J1 x0.1 x0.2.1 x0.2.2.1 x0.2.2.2.1 x0.2.2.2.2.1 x0.2.2.2.2.2.1 x0.2.2.2.2.2.2.1 x0.2.2.2.2.2.2.2.1 x0.2.2.2.2.2.2.2.2.1 x0.2.2.2.2.2.2.2.2.2 u11 ([] : List ((Int × Int × Int × Int) × (Int × Int × Int) × Int))

def planner_Better (x0 : ((Int × Int × Int × Int) × (Int × Int × Int) × Int)) (x1 : ((Int × Int × Int × Int) × (Int × Int × Int) × Int)) : Option Bool :=
  some (decide (x0.2.2 < x1.2.2))

def planner_Best_J1 (v119 : Int) (v120 : Int) (v121 : Int) (v122 : Int) (v123 : Int) (v124 : Int) (v125 : Int) (v126 : Int) (v127 : Int) (v128 : Int) (v129 : Int) (v130 : Int) (v131 : Int) (v132 : Int) (v133 : Int) (v134 : Int) (v135 : Int) (v136 : Int) (v137 : Int) (v138 : Int) (v139 : Int) (v140 : Int) (v141 : Int) (v142 : Int) (v143 : Int) (v144 : Int) : Option (((Int × Int × Int × Int) × (Int × Int × Int) × Int) × Int) :=
  some (((v119, v120, v121, v122), (v123, v124, v125), v126), 0)
def planner_Best_B2 (kx145 : Int → Int → Int → Int → Int → Int → Int → Int → Int → Int → Int → Int → Int → Int → Int → Int → Int → Int → Int → Int → Int → Int → Int → Int → Int → Int → Option (((Int × Int × Int × Int) × (Int × Int × Int) × Int) × Int)) (z208 : Int) (z209 : Int) (z210 : Int) (z211 : Int) (z212 : Int) (z213 : Int) (z214 : Int) (z215 : Int) (z216 : Int) (z217 : Int) (rec192 : Int → Int → Int → Int → Int → Int → Int → Int → Option (((Int × Int × Int × Int) × (Int × Int × Int) × Int) × Int)) (x219 : ((Int × Int × Int × Int) × (Int × Int × Int) × Int)) (v196 : Int) (v197 : Int) (v198 : Int) (v199 : Int) (v200 : Int) (v201 : Int) (v202 : Int) (v203 : Int) : Option (((Int × Int × Int × Int) × (Int × Int × Int) × Int) × Int) :=
  (planner_Better x219 ((v196, v197, v198, v199), (v200, v201, v202), v203)).bind fun u225 => if (u225 = true) then (rec192 x219.1.1 x219.1.2.1 x219.1.2.2.1 x219.1.2.2.2 x219.2.1.1 x219.2.1.2.1 x219.2.1.2.2 x219.2.2) else
 rec192 v196 v197 v198 v199 v200 v201 v202 v203
def planner_Best_L2 (kx145 : Int → Int → Int → Int → Int → Int → Int → Int → Int → Int → Int → Int → Int → Int → Int → Int → Int → Int → Int → Int → Int → Int → Int → Int → Int → Int → Option (((Int × Int × Int × Int) × (Int × Int × Int) × Int) × Int)) (z208 : Int) (z209 : Int) (z210 : Int) (z211 : Int) (z212 : Int) (z213 : Int) (z214 : Int) (z215 : Int) (z216 : Int) (z217 : Int) : (List ((Int × Int × Int × Int) × (Int × Int × Int) × Int)) → Int → Int → Int → Int → Int → Int → Int → Int → Option (((Int × Int × Int × Int) × (Int × Int × Int) × Int) × Int)
  | [], v196, v197, v198, v199, v200, v201, v202, v203 => kx145 v196 v197 v198 v199 v200 v201 v202 v203 0 0 0 0 0 0 0 0 z208 z209 z210 z211 z212 z213 z214 z215 z216 z217
  | x219 :: xs, v196, v197, v198, v199, v200, v201, v202, v203 => planner_Best_B2 kx145 z208 z209 z210 z211 z212 z213 z214 z215 z216 z217 (planner_Best_L2 kx145 z208 z209 z210 z211 z212 z213 z214 z215 z216 z217 xs) x219 v196 v197 v198 v199 v200 v201 v202 v203
def planner_Best (x0 : (Int × Int × Int × Int × Int × Int × Int × (Int × Int × Int))) : Option (((Int × Int × Int × Int) × (Int × Int × Int) × Int) × Int) :=
  (planner_Candidates x0).bind fun u3 => if (u3.2 ≠ 0) then (some (((0, 0, 0, 0), (0, 0, 0), 0), u3.2)) else
 if ((u3.1.length : Int) = 0) then (some (((0, 0, 0, 0), (0, 0, 0), 0), 6)) else
(lidx u3.1 0).bind fun u18 => (lsub u3.1 1 (u3.1.length : Int)).bind fun u29 => planner_Best_L2 planner_Best_J1 x0.1 x0.2.1 x0.2.2.1 x0.2.2.2.1 x0.2.2.2.2.1 x0.2.2.2.2.2.1 x0.2.2.2.2.2.2.1 x0.2.2.2.2.2.2.2.1 x0.2.2.2.2.2.2.2.2.1 x0.2.2.2.2.2.2.2.2.2 u29 u18.1.1 u18.1.2.1 u18.1.2.2.1 u18.1.2.2.2 u18.2.1.1 u18.2.1.2.1 u18.2.1.2.2 u18.2.2

def law29_sane : Option Bool :=
  (planner_Best (3, 1, 1, 0, 10, 2, 1, (1, 0, 0))).bind fun u1 => (planner_Best (3, 2, 1, 0, 10, 2, 1, (0, 0, 0))).bind fun u6 => some (decide ((((u1.2 = 0) ∧ ((u1.1.1.1, u1.1.1.2.1, u1.1.1.2.2.1, u1.1.1.2.2.2) = (2, 3, 1, 0))) ∧ (u1.1.2.1.1 = 30)) ∧ (u6.2 = 6)))

def play_New_J1 (v11 : List Int) : Option ((List Int) × Int) :=
  some (v11, 0)
def play_New (x0 : (List Int)) : Option ((List Int) × Int) :=
  if (300 < (x0.length : Int)) then ((lsub x0 0 300).bind fun u21 => play_New_J1 u21) else
 play_New_J1 x0

def play_Dice_Pick (x0 : ((List Int) × Int)) (x1 : Int) : Option (Int × ((List Int) × Int)) :=
  if ((x0.1.length : Int) ≤ x0.2) then (some (0, x0)) else
(lidx x0.1 (w64 ((w64 (x0.2 + 1)) - 1))).bind fun u4 => (nz x1).bind fun _ => some ((Int.tmod (w64 u4) x1), (x0.1, (w64 (x0.2 + 1))))

def law29_wanted_J1 (z4174 : Int) (z4175 : Int) (z4176 : Int) (z4177 : Int) (z4178 : Int) (z4179 : Int) (v4163 : List Int) (v4167 : Int) (v4168 : Int) (v4169 : Int) (v4170 : Int) (v4171 : Int) : Option ((Int × Int × Int × Int × Int × Int × Int × (Int × Int × Int)) × ((List Int) × Int)) :=
  some ((v4168, v4169, z4174, z4175, v4170, z4176, z4177, (v4171, z4178, z4179)), (v4163, v4167))
def law29_wanted (x0 : ((List Int) × Int)) : Option ((Int × Int × Int × Int × Int × Int × Int × (Int × Int × Int)) × ((List Int) × Int)) :=
  (play_Dice_Pick x0 9).bind fun u2 => (play_Dice_Pick u2.2 4).bind fun u9 => (play_Dice_Pick u9.2 3).bind fun u16 => (play_Dice_Pick u16.2 3).bind fun u23 => (play_Dice_Pick u23.2 60).bind fun u30 => (play_Dice_Pick u30.2 9).bind fun u37 => (play_Dice_Pick u37.2 4).bind fun u44 => (play_Dice_Pick u44.2 9).bind fun u51 => (play_Dice_Pick u51.2 9).bind fun u58 => (play_Dice_Pick u58.2 3).bind fun u65 => (play_Dice_Pick u65.2 12).bind fun u73 => if (u73.1 = 0) then ((play_Dice_Pick u73.2 4).bind fun u4186 => (lidx ([0, 1, 10, 11] : List Int) u4186.1).bind fun u4193 => (law29_wanted_J1 u16.1 u23.1 (w64 (1 + u37.1)) (w64 (1 + u44.1)) u58.1 u65.1) u4186.2.1 u4186.2.2 u4193 u9.1 (w64 (1 + u30.1)) u51.1) else
 if (u73.1 = 1) then ((play_Dice_Pick u73.2 3).bind fun u4204 => (lidx ([(-1), (w64 (2 + u2.1)), (w64 ((w64 (2 + u2.1)) + 1))] : List Int) u4204.1).bind fun u4210 => (law29_wanted_J1 u16.1 u23.1 (w64 (1 + u37.1)) (w64 (1 + u44.1)) u58.1 u65.1) u4204.2.1 u4204.2.2 (w64 (2 + u2.1)) u4210 (w64 (1 + u30.1)) u51.1) else
 if (u73.1 = 2) then ((play_Dice_Pick u73.2 3).bind fun u8232 => (lidx ([(-1), 1048576, 1048577] : List Int) u8232.1).bind fun u8239 => (law29_wanted_J1 u16.1 u23.1 (w64 (1 + u37.1)) (w64 (1 + u44.1)) u58.1 u65.1) u8232.2.1 u8232.2.2 (w64 (2 + u2.1)) u9.1 (w64 (1 + u30.1)) u8239) else
 if (u73.1 = 3) then ((play_Dice_Pick u73.2 3).bind fun u8250 => (lidx ([0, 1024, 1025] : List Int) u8250.1).bind fun u8257 => (law29_wanted_J1 u16.1 u23.1 (w64 (1 + u37.1)) (w64 (1 + u44.1)) u58.1 u65.1) u8250.2.1 u8250.2.2 (w64 (2 + u2.1)) u9.1 u8257 u51.1) else
(law29_wanted_J1 u16.1 u23.1 (w64 (1 + u37.1)) (w64 (1 + u44.1)) u58.1 u65.1) u73.2.1 u73.2.2 (w64 (2 + u2.1)) u9.1 (w64 (1 + u30.1)) u51.1

def ref23_Shape (x0 : (Int × Int × Int × Int)) : Option Bool :=
  if ((x0.2.1 < 2) ∨ (10 < x0.2.1)) then (some false) else
 if (x0.1 = 1) then (some (decide ((x0.2.2.1 = 0) ∧ (x0.2.2.2 = 0)))) else
 if (x0.1 = 2) then (some (decide (((1 ≤ x0.2.2.1) ∧ (x0.2.2.1 ≤ (w64 (x0.2.1 - 1)))) ∧ (x0.2.2.2 = 0)))) else
 if (x0.1 = 3) then (some (decide (((((1 ≤ x0.2.2.1) ∧ (1 ≤ x0.2.2.2)) ∧ (x0.2.2.1 ≤ 10)) ∧ (x0.2.2.2 ≤ 10)) ∧ ((w64 ((w64 ((w64 (2 * x0.2.2.2)) + x0.2.2.1)) - 1)) ≤ x0.2.1)))) else
 some false

def ref23_Units (x0 : (Int × Int × Int × Int)) (x1 : Int) : Option Int :=
  (ref23_Shape x0).bind fun u2 => if ((((!u2) = true) ∨ (x1 < 1)) ∨ (1024 < x1)) then (some 0) else
 if (x0.1 = 3) then ((nz x0.2.2.2).bind fun _ => some (w64 (Int.tdiv (w64 ((w64 (x1 + x0.2.2.2)) - 1)) x0.2.2.2))) else
 some x1

def ref28_Units (x0 : (Int × Int × Int × Int)) (x1 : Int) : Option (Int × Int) :=
  (ref23_Shape x0).bind fun u2 => if ((!u2) = true) then (some (0, 40)) else
 if ((x1 < 1) ∨ (1024 < x1)) then (some (0, 1)) else
(ref23_Units x0 x1).bind fun u16 => some (u16, 0)

def ref28_Of (x0 : (Int × Int × Int × Int)) (x1 : Int) (x2 : Int) (x3 : Int) : Option ((Int × Int × Int) × Int) :=
  (ref28_Units x0 x1).bind fun u3 => if (u3.2 ≠ 0) then (some ((0, 0, 0), u3.2)) else
 if ((((x2 < 1) ∨ (64 < x2)) ∨ (x3 < 1)) ∨ (16 < x3)) then (some ((0, 0, 0), 1)) else
 some (((w64 ((w64 (x3 * x0.2.1)) * u3.1)), (w64 ((w64 (x3 * x0.2.1)) * x2)), (w64 ((w64 ((w64 (x3 * x0.2.1)) * u3.1)) * x2))), 0)

def ref28_Sum (x0 : (Int × Int × Int)) (x1 : (Int × Int × Int)) : Option Int :=
  some (w64 ((w64 ((w64 (x0.1 * x1.1)) + (w64 (x0.2.1 * x1.2.1)))) + (w64 (x0.2.2 * x1.2.2))))

def play_Dice_Scheme (x0 : ((List Int) × Int)) : Option ((Int × Int × Int × Int) × ((List Int) × Int)) :=
  (play_Dice_Pick x0 4).bind fun u2 => (play_Dice_Pick u2.2 3).bind fun u9 => if (u9.1 = 0) then (some ((1, (w64 (3 + u2.1)), 0, 0), u9.2)) else
 if (u9.1 = 1) then ((play_Dice_Pick u9.2 2).bind fun u21 => some ((2, (w64 (3 + u2.1)), (w64 (1 + u21.1)), 0), u21.2)) else
(if ((w64 (3 + u2.1)) < 4) then (some (true, u9.2.1, u9.2.2)) else (play_Dice_Pick u9.2 2).bind fun u59 => some ((decide (u59.1 = 0)), u59.2.1, u59.2.2)).bind fun u39 => if (u39.1 = true) then ((play_Dice_Pick u39.2 2).bind fun u49 => some ((3, (w64 (3 + u2.1)), (w64 (1 + u49.1)), 1), u49.2)) else
 some ((3, (w64 (3 + u2.1)), 1, 2), u39.2)

def play_Dice_Odd_J1 (v4092 : List Int) (v4096 : Int) (v4097 : Int) (v4098 : Int) (v4099 : Int) (v4100 : Int) : Option ((Int × Int × Int × Int) × ((List Int) × Int)) :=
  some ((v4097, v4098, v4099, v4100), (v4092, v4096))
def play_Dice_Odd (x0 : ((List Int) × Int)) : Option ((Int × Int × Int × Int) × ((List Int) × Int)) :=
  (play_Dice_Scheme x0).bind fun u2 => (play_Dice_Pick u2.2 6).bind fun u10 => if (u10.1 = 0) then ((play_Dice_Pick u10.2 6).bind fun u4106 => play_Dice_Odd_J1 u4106.2.1 u4106.2.2 u4106.1 u2.1.2.1 u2.1.2.2.1 u2.1.2.2.2) else
 if (u10.1 = 1) then ((play_Dice_Pick u10.2 6).bind fun u4119 => (lidx ([0, 1, 2, 10, 11, (-1)] : List Int) u4119.1).bind fun u4126 => play_Dice_Odd_J1 u4119.2.1 u4119.2.2 u2.1.1 u4126 u2.1.2.2.1 u2.1.2.2.2) else
 if (u10.1 = 2) then ((play_Dice_Pick u10.2 4).bind fun u4137 => (lidx ([0, (-1), (w64 (u2.1.2.1 - 1)), u2.1.2.1] : List Int) u4137.1).bind fun u4143 => play_Dice_Odd_J1 u4137.2.1 u4137.2.2 u2.1.1 u2.1.2.1 u4143 u2.1.2.2.2) else
 if (u10.1 = 3) then ((play_Dice_Pick u10.2 4).bind fun u8165 => (lidx ([0, 1, 3, (-1)] : List Int) u8165.1).bind fun u8172 => play_Dice_Odd_J1 u8165.2.1 u8165.2.2 u2.1.1 u2.1.2.1 u2.1.2.2.1 u8172) else
 play_Dice_Odd_J1 u10.2.1 u10.2.2 u2.1.1 u2.1.2.1 u2.1.2.2.1 u2.1.2.2.2

def law29_PlannerBest_B1 (z337 : Int) (z338 : Int) (z339 : Int) (z340 : Int) (z341 : Int) (z342 : Int) (z343 : Int) (z344 : Int) (z345 : Int) (z346 : Int) (z347 : Int) (rec320 : Option Bool) (x352 : ((Int × Int × Int × Int) × (Int × Int × Int) × Int)) : Option Bool :=
  (if (x352.2.2 < z337) then (some true) else (planner_Serves x352.1 (z338, z339, z340, z341, z342, z343, z344, (z345, z346, z347))).bind fun u374 => some (!u374)).bind fun u364 => if (u364 = true) then (some false) else
 rec320
def law29_PlannerBest_L1 (z337 : Int) (z338 : Int) (z339 : Int) (z340 : Int) (z341 : Int) (z342 : Int) (z343 : Int) (z344 : Int) (z345 : Int) (z346 : Int) (z347 : Int) : (List ((Int × Int × Int × Int) × (Int × Int × Int) × Int)) → Option Bool
  | [] => some true
  | x352 :: xs => law29_PlannerBest_B1 z337 z338 z339 z340 z341 z342 z343 z344 z345 z346 z347 (law29_PlannerBest_L1 z337 z338 z339 z340 z341 z342 z343 z344 z345 z346 z347 xs) x352 
def law29_PlannerBest_J2 (z266 : List ((Int × Int × Int × Int) × (Int × Int × Int) × Int)) (v238 : Int) (v239 : Int) (v240 : Int) (v241 : Int) (v242 : Int) (v243 : Int) (v244 : Int) (v245 : Int) (v246 : Int) (v247 : Int) (v248 : Int) (v249 : Int) (v250 : Int) (v251 : Int) (v252 : Int) (v253 : Int) (v254 : Int) (v255 : Int) (v256 : Int) (v257 : Int) (v258 : Int) (v259 : List Int) (v263 : Int) : Option Bool :=
  law29_PlannerBest_L1 v248 v249 v250 v251 v252 v253 v254 v255 v256 v257 v258 z266 
def law29_PlannerBest_B3 (kx264 : Int → Int → Int → Int → Int → Int → Int → Int → Int → Int → Int → Int → Int → Int → Int → Int → Int → Int → Int → Int → Int → (List Int) → Int → Option Bool) (z456 : Int) (z457 : Int) (z458 : Int) (z459 : Int) (z460 : Int) (z461 : Int) (z462 : Int) (z463 : Int) (z464 : Int) (z465 : Int) (z466 : Int) (z467 : Int) (z468 : Int) (z469 : Int) (z470 : Int) (z471 : Int) (z472 : Int) (z473 : Int) (z474 : Int) (z475 : Int) (z476 : Int) (rec447 : Int → (List Int) → Int → Option Bool) (v448 : Int) (v449 : List Int) (v453 : Int) : Option Bool :=
  if (v448 < 8) then ((play_Dice_Odd (v449, v453)).bind fun u482 => (planner_Serves (u482.1.1, z467, u482.1.2.2.1, u482.1.2.2.2) (z467, z468, z469, z470, z471, z472, z473, (z474, z475, z476))).bind fun u490 => if (u490 = true) then ((ref28_Of (u482.1.1, z467, u482.1.2.2.1, u482.1.2.2.2) z471 z472 z473).bind fun u496 => (if (u496.2 ≠ 0) then (some true) else (ref28_Sum u496.1 (z474, z475, z476)).bind fun u517 => some (decide (u517 < z466))).bind fun u507 => if (u507 = true) then (some false) else
 rec447 (w64 (v448 + 1)) u482.2.1 u482.2.2) else
 rec447 (w64 (v448 + 1)) u482.2.1 u482.2.2) else
 kx264 z456 z457 z458 z459 z460 z461 z462 z463 z464 z465 z466 z467 z468 z469 z470 z471 z472 z473 z474 z475 z476 v449 v453
def law29_PlannerBest_L3 (kx264 : Int → Int → Int → Int → Int → Int → Int → Int → Int → Int → Int → Int → Int → Int → Int → Int → Int → Int → Int → Int → Int → (List Int) → Int → Option Bool) (z456 : Int) (z457 : Int) (z458 : Int) (z459 : Int) (z460 : Int) (z461 : Int) (z462 : Int) (z463 : Int) (z464 : Int) (z465 : Int) (z466 : Int) (z467 : Int) (z468 : Int) (z469 : Int) (z470 : Int) (z471 : Int) (z472 : Int) (z473 : Int) (z474 : Int) (z475 : Int) (z476 : Int) : Nat → Int → (List Int) → Int → Option Bool
  | 0, _, _, _ => none
  | n + 1, v448, v449, v453 => law29_PlannerBest_B3 kx264 z456 z457 z458 z459 z460 z461 z462 z463 z464 z465 z466 z467 z468 z469 z470 z471 z472 z473 z474 z475 z476 (law29_PlannerBest_L3 kx264 z456 z457 z458 z459 z460 z461 z462 z463 z464 z465 z466 z467 z468 z469 z470 z471 z472 z473 z474 z475 z476 n) v448 v449 v453
def law29_PlannerBest (x0 : (List Int)) : Option Bool :=
  (law29_sane).bind fun u1 => if ((!u1) = true) then (some false) else
(play_New x0).bind fun u8 => (law29_wanted u8).bind fun u16 => (planner_Valid u16.1).bind fun u24 => if ((!u24) = true) then ((planner_Best u16.1).bind fun u30 => some (decide (u30.2 = 42))) else
(planner_Best u16.1).bind fun u36 => (planner_Candidates u16.1).bind fun u41 => if ((u41.2 ≠ 0) ∨ ((decide (u36.2 = 0)) ≠ (decide (0 < (u41.1.length : Int))))) then (some false) else
 if (u36.2 ≠ 0) then (some (decide (u36.2 = 6))) else
(ref28_Of u36.1.1 u16.1.2.2.2.2.1 u16.1.2.2.2.2.2.1 u16.1.2.2.2.2.2.2.1).bind fun u60 => (if ((u60.2 ≠ 0) ∨ ((u60.1.1, u60.1.2.1, u60.1.2.2) ≠ (u36.1.2.1.1, u36.1.2.1.2.1, u36.1.2.1.2.2))) then (some true) else (ref28_Sum u60.1 u16.1.2.2.2.2.2.2.2).bind fun u531 => some (decide (u531 ≠ u36.1.2.2))).bind fun u75 => (if (u75 = true) then (some true) else (planner_Serves u36.1.1 u16.1).bind fun u525 => some (!u525)).bind fun u86 => if (u86 = true) then (some false) else
 law29_PlannerBest_L3 (law29_PlannerBest_J2 u41.1) u60.1.1 u60.1.2.1 u60.1.2.2 u36.1.1.1 u36.1.1.2.1 u36.1.1.2.2.1 u36.1.1.2.2.2 u36.1.2.1.1 u36.1.2.1.2.1 u36.1.2.1.2.2 u36.1.2.2 u16.1.1 u16.1.2.1 u16.1.2.2.1 u16.1.2.2.2.1 u16.1.2.2.2.2.1 u16.1.2.2.2.2.2.1 u16.1.2.2.2.2.2.2.1 u16.1.2.2.2.2.2.2.2.1 u16.1.2.2.2.2.2.2.2.2.1 u16.1.2.2.2.2.2.2.2.2.2 big 0 u16.2.1 u16.2.2

def law29_PlannerLess (x0 : (List Int)) : Option Bool :=
  (law29_sane).bind fun u1 => if ((!u1) = true) then (some false) else
(play_New x0).bind fun u8 => (law29_wanted u8).bind fun u16 => (play_Dice_Pick u16.2 (max 1 (w64 (u16.1.2.1 + 1)))).bind fun u25 => (play_Dice_Pick u25.2 (w64 (u16.1.2.2.1 + 1))).bind fun u32 => (play_Dice_Pick u32.2 (w64 (u16.1.2.2.2.1 + 1))).bind fun u39 => (play_Dice_Scheme u39.2).bind fun u46 => (planner_Serves (u46.1.1, u16.1.1, u46.1.2.2.1, u46.1.2.2.2) u16.1).bind fun u54 => (if (u54 = true) then ((planner_Serves (u46.1.1, u16.1.1, u46.1.2.2.1, u46.1.2.2.2) (u16.1.1, u25.1, u32.1, u39.1, u16.1.2.2.2.2.1, u16.1.2.2.2.2.2.1, u16.1.2.2.2.2.2.2.1, (u16.1.2.2.2.2.2.2.2.1, u16.1.2.2.2.2.2.2.2.2.1, u16.1.2.2.2.2.2.2.2.2.2))).bind fun u95 => some (!u95)) else some false).bind fun u64 => if (u64 = true) then (some false) else
(planner_Best u16.1).bind fun u72 => (planner_Best (u16.1.1, u25.1, u32.1, u39.1, u16.1.2.2.2.2.1, u16.1.2.2.2.2.2.1, u16.1.2.2.2.2.2.2.1, (u16.1.2.2.2.2.2.2.2.1, u16.1.2.2.2.2.2.2.2.2.1, u16.1.2.2.2.2.2.2.2.2.2))).bind fun u77 => some (decide ((u72.2 ≠ 0) ∨ ((u77.2 = 0) ∧ (u77.1.2.2 ≤ u72.1.2.2))))

def ref23_Threshold (x0 : (Int × Int × Int × Int)) : Option Int :=
  (ref23_Shape x0).bind fun u2 => if ((!u2) = true) then (some 0) else
 if (x0.1 = 1) then (some (w64 (x0.2.1 - 1))) else
 some x0.2.2.1

def ref23_Need (x0 : (Int × Int × Int × Int)) : Option Int :=
  (ref23_Shape x0).bind fun u2 => if ((!u2) = true) then (some 0) else
 if (x0.1 = 1) then (some x0.2.1) else
 if (x0.1 = 2) then (some (w64 (x0.2.2.1 + 1))) else
 some (w64 ((w64 ((w64 (2 * x0.2.2.2)) + x0.2.2.1)) - 1))

def ref23_Bears (x0 : (Int × Int × Int × Int)) (x1 : Int) (x2 : Int) : Option Bool :=
  (ref23_Shape x0).bind fun u2 => (if (((((u2 = true) ∧ (0 ≤ x1)) ∧ (0 ≤ x2)) ∧ (x1 ≤ x0.2.1)) ∧ (x2 ≤ x0.2.1)) then ((ref23_Need x0).bind fun u34 => some (decide ((w64 ((w64 (u34 + x1)) + (w64 (2 * x2)))) ≤ x0.2.1))) else some false).bind fun u28 => some u28

def law29_PlannerSure_B1 (rec323 : Int → Int → Int → Int → Int → Int → Int → Int → Int → Int → Int → Option Bool) (z422 : Int) (z423 : Int) (z424 : Int) (z425 : Int) (z430 : Int) (z431 : Int) (z432 : Int) (z433 : Int) (z434 : Int) (z435 : Int) (z436 : Int) (z437 : Int) (z438 : Int) (z439 : Int) (z441 : Int) (rec411 : Option Bool) (x443 : ((Int × Int × Int × Int) × (Int × Int × Int) × Int)) : Option Bool :=
  if ((x443.1.1, x443.1.2.1, x443.1.2.2.1, x443.1.2.2.2) = (z422, z423, z424, z425)) then (some false) else
 rec411
def law29_PlannerSure_L1 (rec323 : Int → Int → Int → Int → Int → Int → Int → Int → Int → Int → Int → Option Bool) (z422 : Int) (z423 : Int) (z424 : Int) (z425 : Int) (z430 : Int) (z431 : Int) (z432 : Int) (z433 : Int) (z434 : Int) (z435 : Int) (z436 : Int) (z437 : Int) (z438 : Int) (z439 : Int) (z441 : Int) : (List ((Int × Int × Int × Int) × (Int × Int × Int) × Int)) → Option Bool
  | [] => rec323 z430 z431 z432 z433 z434 z435 z436 z437 z438 z439 z441
  | x443 :: xs => law29_PlannerSure_B1 rec323 z422 z423 z424 z425 z430 z431 z432 z433 z434 z435 z436 z437 z438 z439 z441 (law29_PlannerSure_L1 rec323 z422 z423 z424 z425 z430 z431 z432 z433 z434 z435 z436 z437 z438 z439 z441 xs) x443 
def law29_PlannerSure_B2 (z340 : List ((Int × Int × Int × Int) × (Int × Int × Int) × Int)) (rec323 : Int → Int → Int → Int → Int → Int → Int → Int → Int → Int → Int → Option Bool) (x344 : ((Int × Int × Int × Int) × (Int × Int × Int) × Int)) (i323 : Nat) (v327 : Int) (v328 : Int) (v329 : Int) (v330 : Int) (v331 : Int) (v332 : Int) (v333 : Int) (v334 : Int) (v335 : Int) (v336 : Int) (v337 : Int) : Option Bool :=
  (ref23_Threshold x344.1).bind fun u350 => (if (u350 < v328) then (some true) else (ref23_Bears x344.1 v329 v330).bind fun u454 => some (!u454)).bind fun u360 => if ((u360 = true) ∨ (x344.1.2.1 ≠ v327)) then (some false) else
(lsub z340 0 (i323 : Int)).bind fun u372 => law29_PlannerSure_L1 rec323 x344.1.1 x344.1.2.1 x344.1.2.2.1 x344.1.2.2.2 v327 v328 v329 v330 v331 v332 v333 v334 v335 v336 v337 u372 
def law29_PlannerSure_L2 (z340 : List ((Int × Int × Int × Int) × (Int × Int × Int) × Int)) : (List ((Int × Int × Int × Int) × (Int × Int × Int) × Int)) → Nat → Int → Int → Int → Int → Int → Int → Int → Int → Int → Int → Int → Option Bool
  | [], i323, v327, v328, v329, v330, v331, v332, v333, v334, v335, v336, v337 => some true
  | x344 :: xs, i323, v327, v328, v329, v330, v331, v332, v333, v334, v335, v336, v337 => law29_PlannerSure_B2 z340 (law29_PlannerSure_L2 z340 xs (i323 + 1)) x344 i323 v327 v328 v329 v330 v331 v332 v333 v334 v335 v336 v337
def law29_PlannerSure (x0 : (List Int)) : Option Bool :=
  (law29_sane).bind fun u1 => if ((!u1) = true) then (some false) else
(play_New x0).bind fun u8 => (law29_wanted u8).bind fun u16 => (planner_Candidates u16.1).bind fun u24 => if (u24.2 ≠ 0) then ((if ((u24.2 = 42) ∧ ((u24.1.length : Int) = 0)) then ((planner_Valid u16.1).bind fun u51 => some (!u51)) else some false).bind fun u45 => some u45) else
 law29_PlannerSure_L2 u24.1 u24.1 0 u16.1.1 u16.1.2.1 u16.1.2.2.1 u16.1.2.2.2.1 u16.1.2.2.2.2.1 u16.1.2.2.2.2.2.1 u16.1.2.2.2.2.2.2.1 u16.1.2.2.2.2.2.2.2.1 u16.1.2.2.2.2.2.2.2.2.1 u16.1.2.2.2.2.2.2.2.2.2 u16.2.2

def law29_PlannerScales (x0 : (List Int)) (x1 : Int) : Option Bool :=
  (law29_sane).bind fun u1 => if ((!u1) = true) then (some false) else
(play_New x0).bind fun u8 => (law29_wanted u8).bind fun u16 => (play_Dice_Pick u16.2 9).bind fun u24 => (play_Dice_Pick u24.2 9).bind fun u31 => (play_Dice_Pick u31.2 3).bind fun u38 => (planner_Best (u16.1.1, u16.1.2.1, u16.1.2.2.1, u16.1.2.2.2.1, u16.1.2.2.2.2.1, u16.1.2.2.2.2.2.1, u16.1.2.2.2.2.2.2.1, (u24.1, u31.1, u38.1))).bind fun u46 => (planner_Best (u16.1.1, u16.1.2.1, u16.1.2.2.1, u16.1.2.2.2.1, u16.1.2.2.2.2.1, u16.1.2.2.2.2.2.1, u16.1.2.2.2.2.2.2.1, ((w64 (u24.1 * (w64 (1 + (Int.tmod (w64 x1) 50))))), (w64 (u31.1 * (w64 (1 + (Int.tmod (w64 x1) 50))))), (w64 (u38.1 * (w64 (1 + (Int.tmod (w64 x1) 50)))))))).bind fun u51 => some (decide ((u46.2 = u51.2) ∧ ((u46.2 ≠ 0) ∨ ((((u46.1.1.1, u46.1.1.2.1, u46.1.1.2.2.1, u46.1.1.2.2.2) = (u51.1.1.1, u51.1.1.2.1, u51.1.1.2.2.1, u51.1.1.2.2.2)) ∧ ((u46.1.2.1.1, u46.1.2.1.2.1, u46.1.2.1.2.2) = (u51.1.2.1.1, u51.1.2.1.2.1, u51.1.2.1.2.2))) ∧ (u51.1.2.2 = (w64 (u46.1.2.2 * (w64 (1 + (Int.tmod (w64 x1) 50))))))))))

def ref29_Valid (x0 : (Int × Int × Int × Int × Int × Int × Int × (Int × Int × Int))) : Option Bool :=
  some (decide ((((((((((((((((((((2 ≤ x0.1) ∧ (x0.1 ≤ 10)) ∧ (0 ≤ x0.2.1)) ∧ (x0.2.1 ≤ x0.1)) ∧ (0 ≤ x0.2.2.1)) ∧ (x0.2.2.1 ≤ x0.1)) ∧ (0 ≤ x0.2.2.2.1)) ∧ (x0.2.2.2.1 ≤ x0.1)) ∧ (1 ≤ x0.2.2.2.2.1)) ∧ (x0.2.2.2.2.1 ≤ 1024)) ∧ (1 ≤ x0.2.2.2.2.2.1)) ∧ (x0.2.2.2.2.2.1 ≤ 64)) ∧ (1 ≤ x0.2.2.2.2.2.2.1)) ∧ (x0.2.2.2.2.2.2.1 ≤ 16)) ∧ (0 ≤ x0.2.2.2.2.2.2.2.1)) ∧ (x0.2.2.2.2.2.2.2.1 ≤ 1048576)) ∧ (0 ≤ x0.2.2.2.2.2.2.2.2.1)) ∧ (x0.2.2.2.2.2.2.2.2.1 ≤ 1048576)) ∧ (0 ≤ x0.2.2.2.2.2.2.2.2.2)) ∧ (x0.2.2.2.2.2.2.2.2.2 ≤ 1048576)))

def ref29_Serves (x0 : (Int × Int × Int × Int)) (x1 : (Int × Int × Int × Int × Int × Int × Int × (Int × Int × Int))) : Option Bool :=
  (ref29_Valid x1).bind fun u3 => (if (u3 = true) then ((ref23_Shape x0).bind fun u57 => some u57) else some false).bind fun u13 => (if ((u13 = true) ∧ (x0.2.1 = x1.1)) then ((ref23_Threshold x0).bind fun u51 => some (decide (x1.2.1 ≤ u51))) else some false).bind fun u28 => (if (u28 = true) then ((ref23_Bears x0 x1.2.2.1 x1.2.2.2.1).bind fun u45 => some u45) else some false).bind fun u39 => some u39

def ref29_Candidates_B1 (z16460 : Int) (z16461 : Int) (z16462 : Int) (z16463 : Int) (z16464 : Int) (z16465 : Int) (z16466 : Int) (z16467 : Int) (z16468 : Int) (z16469 : Int) (z16470 : List (Int × Int × Int × Int)) (rec16450 : (List ((Int × Int × Int × Int) × (Int × Int × Int) × Int)) → Int → Option ((List ((Int × Int × Int × Int) × (Int × Int × Int) × Int)) × Int)) (v16451 : List ((Int × Int × Int × Int) × (Int × Int × Int) × Int)) (v16457 : Int) : Option ((List ((Int × Int × Int × Int) × (Int × Int × Int) × Int)) × Int) :=
  if (v16457 < (z16470.length : Int)) then ((lidx z16470 v16457).bind fun u16475 => (ref29_Serves u16475 (z16460, z16461, z16462, z16463, z16464, z16465, z16466, (z16467, z16468, z16469))).bind fun u16480 => if (u16480 = true) then ((lidx z16470 v16457).bind fun u16486 => (ref28_Of u16486 z16464 z16465 z16466).bind fun u16490 => (lidx z16470 v16457).bind fun u20501 => (ref28_Sum u16490.1 (z16467, z16468, z16469)).bind fun u20505 => (lapp v16451 ([((u20501.1, u20501.2.1, u20501.2.2.1, u20501.2.2.2), (u16490.1.1, u16490.1.2.1, u16490.1.2.2), u20505)] : List ((Int × Int × Int × Int) × (Int × Int × Int) × Int))).bind fun u20515 => rec16450 u20515 (w64 (v16457 + 1))) else
 rec16450 v16451 (w64 (v16457 + 1))) else
 some (v16451, 0)
def ref29_Candidates_L1 (z16460 : Int) (z16461 : Int) (z16462 : Int) (z16463 : Int) (z16464 : Int) (z16465 : Int) (z16466 : Int) (z16467 : Int) (z16468 : Int) (z16469 : Int) (z16470 : List (Int × Int × Int × Int)) : Nat → (List ((Int × Int × Int × Int) × (Int × Int × Int) × Int)) → Int → Option ((List ((Int × Int × Int × Int) × (Int × Int × Int) × Int)) × Int)
  | 0, _, _ => none
  | n + 1, v16451, v16457 => ref29_Candidates_B1 z16460 z16461 z16462 z16463 z16464 z16465 z16466 z16467 z16468 z16469 z16470 (ref29_Candidates_L1 z16460 z16461 z16462 z16463 z16464 z16465 z16466 z16467 z16468 z16469 z16470 n) v16451 v16457
def ref29_Candidates_J2 (v273 : List (Int × Int × Int × Int)) (v279 : Int) (v280 : Int) (v281 : Int) (v282 : Int) (v283 : Int) (v284 : Int) (v285 : Int) (v286 : Int) (v287 : Int) (v288 : Int) : Option ((List ((Int × Int × Int × Int) × (Int × Int × Int) × Int)) × Int) :=
  ref29_Candidates_L1 v279 v280 v281 v282 v283 v284 v285 v286 v287 v288 v273 big ([] : List ((Int × Int × Int × Int) × (Int × Int × Int) × Int)) 0
def ref29_Candidates_B3 (rec24624 : (List (Int × Int × Int × Int)) → Int → Int → Int → Int → Int → Int → Int → Int → Int → Int → Int → Option ((List ((Int × Int × Int × Int) × (Int × Int × Int) × Int)) × Int)) (z24688 : Int) (z24689 : Int) (z24690 : Int) (z24691 : Int) (z24692 : Int) (z24693 : Int) (z24694 : Int) (z24695 : Int) (z24696 : Int) (z24697 : Int) (z24698 : Int) (rec24678 : (List (Int × Int × Int × Int)) → Int → Option ((List ((Int × Int × Int × Int) × (Int × Int × Int) × Int)) × Int)) (v24679 : List (Int × Int × Int × Int)) (v24685 : Int) : Option ((List ((Int × Int × Int × Int) × (Int × Int × Int) × Int)) × Int) :=
  if (v24685 ≤ z24689) then ((lapp v24679 ([(3, z24689, v24685, z24688)] : List (Int × Int × Int × Int))).bind fun u24710 => rec24678 u24710 (w64 (v24685 + 1))) else
 rec24624 v24679 (w64 (z24688 + 1)) z24689 z24690 z24691 z24692 z24693 z24694 z24695 z24696 z24697 z24698
def ref29_Candidates_L3 (rec24624 : (List (Int × Int × Int × Int)) → Int → Int → Int → Int → Int → Int → Int → Int → Int → Int → Int → Option ((List ((Int × Int × Int × Int) × (Int × Int × Int) × Int)) × Int)) (z24688 : Int) (z24689 : Int) (z24690 : Int) (z24691 : Int) (z24692 : Int) (z24693 : Int) (z24694 : Int) (z24695 : Int) (z24696 : Int) (z24697 : Int) (z24698 : Int) : Nat → (List (Int × Int × Int × Int)) → Int → Option ((List ((Int × Int × Int × Int) × (Int × Int × Int) × Int)) × Int)
  | 0, _, _ => none
  | n + 1, v24679, v24685 => ref29_Candidates_B3 rec24624 z24688 z24689 z24690 z24691 z24692 z24693 z24694 z24695 z24696 z24697 z24698 (ref29_Candidates_L3 rec24624 z24688 z24689 z24690 z24691 z24692 z24693 z24694 z24695 z24696 z24697 z24698 n) v24679 v24685
def ref29_Candidates_B4 (kx289 : (List (Int × Int × Int × Int)) → Int → Int → Int → Int → Int → Int → Int → Int → Int → Int → Option ((List ((Int × Int × Int × Int) × (Int × Int × Int) × Int)) × Int)) (rec24624 : (List (Int × Int × Int × Int)) → Int → Int → Int → Int → Int → Int → Int → Int → Int → Int → Int → Option ((List ((Int × Int × Int × Int) × (Int × Int × Int) × Int)) × Int)) (v24625 : List (Int × Int × Int × Int)) (v24631 : Int) (v24632 : Int) (v24633 : Int) (v24634 : Int) (v24635 : Int) (v24636 : Int) (v24637 : Int) (v24638 : Int) (v24639 : Int) (v24640 : Int) (v24641 : Int) : Option ((List ((Int × Int × Int × Int) × (Int × Int × Int) × Int)) × Int) :=
  if (v24631 ≤ v24632) then (ref29_Candidates_L3 rec24624 v24631 v24632 v24633 v24634 v24635 v24636 v24637 v24638 v24639 v24640 v24641 big v24625 1) else
 kx289 v24625 v24632 v24633 v24634 v24635 v24636 v24637 v24638 v24639 v24640 v24641
def ref29_Candidates_L4 (kx289 : (List (Int × Int × Int × Int)) → Int → Int → Int → Int → Int → Int → Int → Int → Int → Int → Option ((List ((Int × Int × Int × Int) × (Int × Int × Int) × Int)) × Int)) : Nat → (List (Int × Int × Int × Int)) → Int → Int → Int → Int → Int → Int → Int → Int → Int → Int → Int → Option ((List ((Int × Int × Int × Int) × (Int × Int × Int) × Int)) × Int)
  | 0, _, _, _, _, _, _, _, _, _, _, _, _ => none
  | n + 1, v24625, v24631, v24632, v24633, v24634, v24635, v24636, v24637, v24638, v24639, v24640, v24641 => ref29_Candidates_B4 kx289 (ref29_Candidates_L4 kx289 n) v24625 v24631 v24632 v24633 v24634 v24635 v24636 v24637 v24638 v24639 v24640 v24641
def ref29_Candidates_J5 (v78 : List (Int × Int × Int × Int)) (v84 : Int) (v85 : Int) (v86 : Int) (v87 : Int) (v88 : Int) (v89 : Int) (v90 : Int) (v91 : Int) (v92 : Int) (v93 : Int) : Option ((List ((Int × Int × Int × Int) × (Int × Int × Int) × Int)) × Int) :=
  ref29_Candidates_L4 ref29_Candidates_J2 big v78 1 v84 v85 v86 v87 v88 v89 v90 v91 v92 v93
def ref29_Candidates_B6 (kx94 : (List (Int × Int × Int × Int)) → Int → Int → Int → Int → Int → Int → Int → Int → Int → Int → Option ((List ((Int × Int × Int × Int) × (Int × Int × Int) × Int)) × Int)) (z24756 : Int) (z24757 : Int) (z24758 : Int) (z24759 : Int) (z24760 : Int) (z24761 : Int) (z24762 : Int) (z24763 : Int) (z24764 : Int) (z24765 : Int) (rec24746 : (List (Int × Int × Int × Int)) → Int → Option ((List ((Int × Int × Int × Int) × (Int × Int × Int) × Int)) × Int)) (v24747 : List (Int × Int × Int × Int)) (v24753 : Int) : Option ((List ((Int × Int × Int × Int) × (Int × Int × Int) × Int)) × Int) :=
  if (v24753 < z24756) then ((lapp v24747 ([(2, z24756, v24753, 0)] : List (Int × Int × Int × Int))).bind fun u24777 => rec24746 u24777 (w64 (v24753 + 1))) else
 kx94 v24747 z24756 z24757 z24758 z24759 z24760 z24761 z24762 z24763 z24764 z24765
def ref29_Candidates_L6 (kx94 : (List (Int × Int × Int × Int)) → Int → Int → Int → Int → Int → Int → Int → Int → Int → Int → Option ((List ((Int × Int × Int × Int) × (Int × Int × Int) × Int)) × Int)) (z24756 : Int) (z24757 : Int) (z24758 : Int) (z24759 : Int) (z24760 : Int) (z24761 : Int) (z24762 : Int) (z24763 : Int) (z24764 : Int) (z24765 : Int) : Nat → (List (Int × Int × Int × Int)) → Int → Option ((List ((Int × Int × Int × Int) × (Int × Int × Int) × Int)) × Int)
  | 0, _, _ => none
  | n + 1, v24747, v24753 => ref29_Candidates_B6 kx94 z24756 z24757 z24758 z24759 z24760 z24761 z24762 z24763 z24764 z24765 (ref29_Candidates_L6 kx94 z24756 z24757 z24758 z24759 z24760 z24761 z24762 z24763 z24764 z24765 n) v24747 v24753
def ref29_Candidates (x0 : (Int × Int × Int × Int × Int × Int × Int × (Int × Int × Int))) : Option ((List ((Int × Int × Int × Int) × (Int × Int × Int) × Int)) × Int) :=
  (ref29_Valid x0).bind fun u2 => if ((!u2) = true) then (some (([] : List ((Int × Int × Int × Int) × (Int × Int × Int) × Int)), 42)) else
 ref29_Candidates_L6 ref29_Candidates_J5 x0.1 x0.2.1 x0.2.2.1 x0.2.2.2.1 x0.2.2.2.2.1 x0.2.2.2.2.2.1 x0.2.2.2.2.2.2.1 x0.2.2.2.2.2.2.2.1 x0.2.2.2.2.2.2.2.2.1 x0.2.2.2.2.2.2.2.2.2 big ([(1, x0.1, 0, 0)] : List (Int × Int × Int × Int)) 1

def ref29_Better (x0 : ((Int × Int × Int × Int) × (Int × Int × Int) × Int)) (x1 : ((Int × Int × Int × Int) × (Int × Int × Int) × Int)) : Option Bool :=
  some (decide (x0.2.2 < x1.2.2))

def ref29_Best_J1 (v179 : Int) (v180 : Int) (v181 : Int) (v182 : Int) (v183 : Int) (v184 : Int) (v185 : Int) (v186 : Int) (v187 : Int) (v188 : Int) (v189 : Int) (v190 : Int) (v191 : Int) (v192 : Int) (v193 : Int) (v194 : Int) (v195 : Int) (v196 : Int) (v197 : Int) (v198 : Int) (v199 : Int) (v200 : Int) (v201 : Int) (v202 : Int) (v203 : Int) (v204 : Int) : Option (((Int × Int × Int × Int) × (Int × Int × Int) × Int) × Int) :=
  some (((v179, v180, v181, v182), (v183, v184, v185), v186), 0)
def ref29_Best_B2 (kx205 : Int → Int → Int → Int → Int → Int → Int → Int → Int → Int → Int → Int → Int → Int → Int → Int → Int → Int → Int → Int → Int → Int → Int → Int → Int → Int → Option (((Int × Int × Int × Int) × (Int × Int × Int) × Int) × Int)) (z326 : List ((Int × Int × Int × Int) × (Int × Int × Int) × Int)) (z327 : Int) (z328 : Int) (z329 : Int) (z330 : Int) (z331 : Int) (z332 : Int) (z333 : Int) (z334 : Int) (z335 : Int) (z336 : Int) (rec314 : Int → Int → Int → Int → Int → Int → Int → Int → Int → Option (((Int × Int × Int × Int) × (Int × Int × Int) × Int) × Int)) (v315 : Int) (v316 : Int) (v317 : Int) (v318 : Int) (v319 : Int) (v320 : Int) (v321 : Int) (v322 : Int) (v323 : Int) : Option (((Int × Int × Int × Int) × (Int × Int × Int) × Int) × Int) :=
  if (v315 < (z326.length : Int)) then ((lidx z326 v315).bind fun u341 => (ref29_Better u341 ((v316, v317, v318, v319), (v320, v321, v322), v323)).bind fun u346 => if (u346 = true) then ((lidx z326 v315).bind fun u352 => rec314 (w64 (v315 + 1)) u352.1.1 u352.1.2.1 u352.1.2.2.1 u352.1.2.2.2 u352.2.1.1 u352.2.1.2.1 u352.2.1.2.2 u352.2.2) else
 rec314 (w64 (v315 + 1)) v316 v317 v318 v319 v320 v321 v322 v323) else
 kx205 v316 v317 v318 v319 v320 v321 v322 v323 0 0 0 0 0 0 0 0 z327 z328 z329 z330 z331 z332 z333 z334 z335 z336
def ref29_Best_L2 (kx205 : Int → Int → Int → Int → Int → Int → Int → Int → Int → Int → Int → Int → Int → Int → Int → Int → Int → Int → Int → Int → Int → Int → Int → Int → Int → Int → Option (((Int × Int × Int × Int) × (Int × Int × Int) × Int) × Int)) (z326 : List ((Int × Int × Int × Int) × (Int × Int × Int) × Int)) (z327 : Int) (z328 : Int) (z329 : Int) (z330 : Int) (z331 : Int) (z332 : Int) (z333 : Int) (z334 : Int) (z335 : Int) (z336 : Int) : Nat → Int → Int → Int → Int → Int → Int → Int → Int → Int → Option (((Int × Int × Int × Int) × (Int × Int × Int) × Int) × Int)
  | 0, _, _, _, _, _, _, _, _, _ => none
  | n + 1, v315, v316, v317, v318, v319, v320, v321, v322, v323 => ref29_Best_B2 kx205 z326 z327 z328 z329 z330 z331 z332 z333 z334 z335 z336 (ref29_Best_L2 kx205 z326 z327 z328 z329 z330 z331 z332 z333 z334 z335 z336 n) v315 v316 v317 v318 v319 v320 v321 v322 v323
def ref29_Best (x0 : (Int × Int × Int × Int × Int × Int × Int × (Int × Int × Int))) : Option (((Int × Int × Int × Int) × (Int × Int × Int) × Int) × Int) :=
  (ref29_Candidates x0).bind fun u3 => if (u3.2 ≠ 0) then (some (((0, 0, 0, 0), (0, 0, 0), 0), u3.2)) else
 if ((u3.1.length : Int) = 0) then (some (((0, 0, 0, 0), (0, 0, 0), 0), 6)) else
(lidx u3.1 0).bind fun u18 => ref29_Best_L2 ref29_Best_J1 u3.1 x0.1 x0.2.1 x0.2.2.1 x0.2.2.2.1 x0.2.2.2.2.1 x0.2.2.2.2.2.1 x0.2.2.2.2.2.2.1 x0.2.2.2.2.2.2.2.1 x0.2.2.2.2.2.2.2.2.1 x0.2.2.2.2.2.2.2.2.2 big 1 u18.1.1 u18.1.2.1 u18.1.2.2.1 u18.1.2.2.2 u18.2.1.1 u18.2.1.2.1 u18.2.1.2.2 u18.2.2

def ref29_Same_B1 (z27 : List ((Int × Int × Int × Int) × (Int × Int × Int) × Int)) (z28 : List ((Int × Int × Int × Int) × (Int × Int × Int) × Int)) (rec23 : Int → Option Bool) (v24 : Int) : Option Bool :=
  if (v24 < (z27.length : Int)) then ((lidx z27 v24).bind fun u33 => (lidx z28 v24).bind fun u38 => if ((u33.1.1, u33.1.2.1, u33.1.2.2.1, u33.1.2.2.2, u33.2.1.1, u33.2.1.2.1, u33.2.1.2.2, u33.2.2) ≠ (u38.1.1, u38.1.2.1, u38.1.2.2.1, u38.1.2.2.2, u38.2.1.1, u38.2.1.2.1, u38.2.1.2.2, u38.2.2)) then (some false) else
 rec23 (w64 (v24 + 1))) else
 some true
def ref29_Same_L1 (z27 : List ((Int × Int × Int × Int) × (Int × Int × Int) × Int)) (z28 : List ((Int × Int × Int × Int) × (Int × Int × Int) × Int)) : Nat → Int → Option Bool
  | 0, _ => none
  | n + 1, v24 => ref29_Same_B1 z27 z28 (ref29_Same_L1 z27 z28 n) v24
def ref29_Same (x0 : (List ((Int × Int × Int × Int) × (Int × Int × Int) × Int))) (x1 : (List ((Int × Int × Int × Int) × (Int × Int × Int) × Int))) : Option Bool :=
  if ((x0.length : Int) ≠ (x1.length : Int)) then (some false) else
 ref29_Same_L1 x0 x1 big 0

def slices_Equal_LapiChoiceapiChoice_B1 (z29 : List ((Int × Int × Int × Int) × (Int × Int × Int) × Int)) (rec22 : Option Bool) (x32 : ((Int × Int × Int × Int) × (Int × Int × Int) × Int)) (i22 : Nat) : Option Bool :=
  (lidx z29 (i22 : Int)).bind fun u37 => if ((x32.1.1, x32.1.2.1, x32.1.2.2.1, x32.1.2.2.2, x32.2.1.1, x32.2.1.2.1, x32.2.1.2.2, x32.2.2) ≠ (u37.1.1, u37.1.2.1, u37.1.2.2.1, u37.1.2.2.2, u37.2.1.1, u37.2.1.2.1, u37.2.1.2.2, u37.2.2)) then (some false) else
 rec22
def slices_Equal_LapiChoiceapiChoice_L1 (z29 : List ((Int × Int × Int × Int) × (Int × Int × Int) × Int)) : (List ((Int × Int × Int × Int) × (Int × Int × Int) × Int)) → Nat → Option Bool
  | [], i22 => some true
  | x32 :: xs, i22 => slices_Equal_LapiChoiceapiChoice_B1 z29 (slices_Equal_LapiChoiceapiChoice_L1 z29 xs (i22 + 1)) x32 i22 
def slices_Equal_LapiChoiceapiChoice (x0 : (List ((Int × Int × Int × Int) × (Int × Int × Int) × Int))) (x1 : (List ((Int × Int × Int × Int) × (Int × Int × Int) × Int))) : Option Bool :=
  if ((x0.length : Int) ≠ (x1.length : Int)) then (some false) else
 slices_Equal_LapiChoiceapiChoice_L1 x1 x0 0 

def planner_Same (x0 : (List ((Int × Int × Int × Int) × (Int × Int × Int) × Int))) (x1 : (List ((Int × Int × Int × Int) × (Int × Int × Int) × Int))) : Option Bool :=
  (slices_Equal_LapiChoiceapiChoice x0 x1).bind fun u1 => some u1

def law29_PlannerSteps_J1 (v33396 : List Int) (v33400 : Int) (v33401 : Int) (v33402 : Int) (v33403 : Int) (v33404 : Int) (v33405 : Int) (v33406 : Int) (v33407 : Int) (v33408 : Int) (v33409 : Int) (v33410 : Int) (v33411 : Int) (v33412 : Int) (v33413 : Int) (v33414 : Int) (v33415 : Int) (v33416 : Int) (v33417 : Int) (v33418 : Int) (v33419 : Int) (v33420 : Int) (v33421 : Int) (v33422 : Int) (v33423 : Int) (v33424 : Int) (v33425 : Int) (v33426 : Int) (v33427 : Int) (v33428 : Int) (v33429 : Int) (v33430 : Int) : Option Bool :=
  (planner_Better ((v33409, v33410, v33411, v33412), (v33413, v33414, v33415), v33416) ((v33401, v33402, v33403, v33404), (v33405, v33406, v33407), v33408)).bind fun u33434 => (ref29_Better ((v33409, v33410, v33411, v33412), (v33413, v33414, v33415), v33416) ((v33401, v33402, v33403, v33404), (v33405, v33406, v33407), v33408)).bind fun u33438 => (if (u33434 = u33438) then ((planner_Better ((v33401, v33402, v33403, v33404), (v33405, v33406, v33407), v33408) ((v33409, v33410, v33411, v33412), (v33413, v33414, v33415), v33416)).bind fun u33458 => (ref29_Better ((v33401, v33402, v33403, v33404), (v33405, v33406, v33407), v33408) ((v33409, v33410, v33411, v33412), (v33413, v33414, v33415), v33416)).bind fun u33462 => some (decide (u33458 = u33462))) else some false).bind fun u33452 => some u33452
def law29_PlannerSteps_J2 (rec50138 : (List Int) → Int → Int → Int → Int → Int → Int → Int → Int → Int → Int → Int → Int → Int → Int → Int → Int → Int → Int → Int → Int → Int → Int → Int → Int → Int → Int → Int → Int → Int → Int → Int → Option Bool) (z50451 : List Int) (v50406 : Int) (v50407 : Int) (v50408 : Int) (v50409 : Int) (v50410 : Int) (v50411 : Int) (v50412 : Int) (v50413 : Int) (v50414 : Int) (v50415 : Int) (v50416 : Int) (v50417 : Int) (v50418 : Int) (v50419 : Int) (v50420 : Int) (v50421 : Int) (v50422 : Int) (v50423 : Int) (v50424 : Int) (v50425 : Int) (v50426 : Int) (v50427 : Int) (v50428 : Int) (v50429 : Int) (v50430 : Int) (v50431 : Int) (v50432 : Int) (v50433 : Int) (v50434 : Int) (v50435 : Int) (v50436 : Int) (v50437 : Int) (v50438 : Int) (v50439 : Int) (v50440 : Int) (v50441 : Int) (v50442 : Int) (v50443 : Int) (v50444 : Int) (v50445 : Int) (v50446 : Int) : Option Bool :=
  (planner_Candidates (v50407, v50408, v50409, v50410, v50411, v50412, v50413, (v50414, v50415, v50416))).bind fun u50454 => (ref29_Candidates (v50407, v50408, v50409, v50410, v50411, v50412, v50413, (v50414, v50415, v50416))).bind fun u50463 => (planner_Best (v50407, v50408, v50409, v50410, v50411, v50412, v50413, (v50414, v50415, v50416))).bind fun u50472 => (ref29_Best (v50407, v50408, v50409, v50410, v50411, v50412, v50413, (v50414, v50415, v50416))).bind fun u50477 => (if (u50454.2 ≠ u50463.2) then (some true) else (ref29_Same u50454.1 u50463.1).bind fun u66632 => some (!u66632)).bind fun u50498 => (if (((u50498 = true) ∨ ((u50472.1.1.1, u50472.1.1.2.1, u50472.1.1.2.2.1, u50472.1.1.2.2.2, u50472.1.2.1.1, u50472.1.2.1.2.1, u50472.1.2.1.2.2, u50472.1.2.2) ≠ (u50477.1.1.1, u50477.1.1.2.1, u50477.1.1.2.2.1, u50477.1.1.2.2.2, u50477.1.2.1.1, u50477.1.2.1.2.1, u50477.1.2.1.2.2, u50477.1.2.2))) ∨ (u50472.2 ≠ u50477.2)) then (some true) else (planner_Same u50454.1 ([((v50425, v50426, v50427, v50428), (v50429, v50430, v50431), v50432)] : List ((Int × Int × Int × Int) × (Int × Int × Int) × Int))).bind fun u62604 => (ref29_Same u50454.1 ([((v50425, v50426, v50427, v50428), (v50429, v50430, v50431), v50432)] : List ((Int × Int × Int × Int) × (Int × Int × Int) × Int))).bind fun u62615 => some (decide (u62604 ≠ u62615))).bind fun u58557 => (if (u58557 = true) then (some true) else (planner_Same u50454.1 u50463.1).bind fun u58580 => some (!u58580)).bind fun u58570 => if (u58570 = true) then (some false) else
 rec50138 z50451 v50406 v50417 v50418 v50419 v50420 v50421 v50422 v50423 v50424 v50425 v50426 v50427 v50428 v50429 v50430 v50431 v50432 v50433 v50434 v50435 v50436 v50437 v50438 v50439 v50440 v50441 v50442 v50443 v50444 v50445 v50446
def law29_PlannerSteps_B3 (kx50447 : Int → Int → Int → Int → Int → Int → Int → Int → Int → Int → Int → Int → Int → Int → Int → Int → Int → Int → Int → Int → Int → Int → Int → Int → Int → Int → Int → Int → Int → Int → Int → Int → Int → Int → Int → Int → Int → Int → Int → Int → Int → Option Bool) (z66736 : Int) (z66737 : Int) (z66738 : Int) (z66739 : Int) (z66740 : Int) (z66741 : Int) (z66742 : Int) (z66743 : Int) (z66744 : Int) (z66745 : Int) (z66746 : Int) (z66747 : Int) (z66748 : Int) (z66749 : Int) (z66750 : Int) (z66751 : Int) (z66752 : Int) (z66753 : Int) (z66754 : Int) (z66755 : Int) (z66756 : Int) (z66757 : Int) (z66758 : Int) (z66759 : Int) (z66760 : Int) (z66761 : Int) (z66762 : Int) (z66763 : Int) (z66764 : Int) (z66765 : Int) (z66766 : Int) (z66767 : Int) (z66768 : Int) (z66769 : Int) (z66770 : Int) (z66771 : Int) (z66772 : Int) (z66773 : Int) (z66774 : Int) (z66775 : Int) (z66776 : Int) (rec66726 : Option Bool) (x66780 : (Int × Int × Int × Int)) : Option Bool :=
  (planner_Serves x66780 (z66737, z66738, z66739, z66740, z66741, z66742, z66743, (z66744, z66745, z66746))).bind fun u66787 => (ref29_Serves x66780 (z66737, z66738, z66739, z66740, z66741, z66742, z66743, (z66744, z66745, z66746))).bind fun u66791 => (if (u66787 ≠ u66791) then (some true) else (planner_Serves (x66780.1, z66737, x66780.2.2.1, x66780.2.2.2) (z66737, z66738, z66739, z66740, z66741, z66742, z66743, (z66744, z66745, z66746))).bind fun u66815 => (ref29_Serves (x66780.1, z66737, x66780.2.2.1, x66780.2.2.2) (z66737, z66738, z66739, z66740, z66741, z66742, z66743, (z66744, z66745, z66746))).bind fun u66819 => some (decide (u66815 ≠ u66819))).bind fun u66805 => if (u66805 = true) then (some false) else
 rec66726
def law29_PlannerSteps_L3 (kx50447 : Int → Int → Int → Int → Int → Int → Int → Int → Int → Int → Int → Int → Int → Int → Int → Int → Int → Int → Int → Int → Int → Int → Int → Int → Int → Int → Int → Int → Int → Int → Int → Int → Int → Int → Int → Int → Int → Int → Int → Int → Int → Option Bool) (z66736 : Int) (z66737 : Int) (z66738 : Int) (z66739 : Int) (z66740 : Int) (z66741 : Int) (z66742 : Int) (z66743 : Int) (z66744 : Int) (z66745 : Int) (z66746 : Int) (z66747 : Int) (z66748 : Int) (z66749 : Int) (z66750 : Int) (z66751 : Int) (z66752 : Int) (z66753 : Int) (z66754 : Int) (z66755 : Int) (z66756 : Int) (z66757 : Int) (z66758 : Int) (z66759 : Int) (z66760 : Int) (z66761 : Int) (z66762 : Int) (z66763 : Int) (z66764 : Int) (z66765 : Int) (z66766 : Int) (z66767 : Int) (z66768 : Int) (z66769 : Int) (z66770 : Int) (z66771 : Int) (z66772 : Int) (z66773 : Int) (z66774 : Int) (z66775 : Int) (z66776 : Int) : (List (Int × Int × Int × Int)) → Option Bool
  | [] => kx50447 z66736 z66737 z66738 z66739 z66740 z66741 z66742 z66743 z66744 z66745 z66746 z66747 z66748 z66749 z66750 z66751 z66752 z66753 z66754 z66755 z66756 z66757 z66758 z66759 z66760 z66761 z66762 z66763 z66764 z66765 z66766 z66767 z66768 z66769 z66770 z66771 z66772 z66773 z66774 z66775 z66776
  | x66780 :: xs => law29_PlannerSteps_B3 kx50447 z66736 z66737 z66738 z66739 z66740 z66741 z66742 z66743 z66744 z66745 z66746 z66747 z66748 z66749 z66750 z66751 z66752 z66753 z66754 z66755 z66756 z66757 z66758 z66759 z66760 z66761 z66762 z66763 z66764 z66765 z66766 z66767 z66768 z66769 z66770 z66771 z66772 z66773 z66774 z66775 z66776 (law29_PlannerSteps_L3 kx50447 z66736 z66737 z66738 z66739 z66740 z66741 z66742 z66743 z66744 z66745 z66746 z66747 z66748 z66749 z66750 z66751 z66752 z66753 z66754 z66755 z66756 z66757 z66758 z66759 z66760 z66761 z66762 z66763 z66764 z66765 z66766 z66767 z66768 z66769 z66770 z66771 z66772 z66773 z66774 z66775 z66776 xs) x66780 
def law29_PlannerSteps_B4 (kx33431 : (List Int) → Int → Int → Int → Int → Int → Int → Int → Int → Int → Int → Int → Int → Int → Int → Int → Int → Int → Int → Int → Int → Int → Int → Int → Int → Int → Int → Int → Int → Int → Int → Int → Option Bool) (rec50138 : (List Int) → Int → Int → Int → Int → Int → Int → Int → Int → Int → Int → Int → Int → Int → Int → Int → Int → Int → Int → Int → Int → Int → Int → Int → Int → Int → Int → Int → Int → Int → Int → Int → Option Bool) (x50186 : (Int × Int × Int × Int × Int × Int × Int × (Int × Int × Int))) (v50146 : List Int) (v50150 : Int) (v50151 : Int) (v50152 : Int) (v50153 : Int) (v50154 : Int) (v50155 : Int) (v50156 : Int) (v50157 : Int) (v50158 : Int) (v50159 : Int) (v50160 : Int) (v50161 : Int) (v50162 : Int) (v50163 : Int) (v50164 : Int) (v50165 : Int) (v50166 : Int) (v50167 : Int) (v50168 : Int) (v50169 : Int) (v50170 : Int) (v50171 : Int) (v50172 : Int) (v50173 : Int) (v50174 : Int) (v50175 : Int) (v50176 : Int) (v50177 : Int) (v50178 : Int) (v50179 : Int) (v50180 : Int) : Option Bool :=
  (planner_Valid x50186).bind fun u50192 => (ref29_Valid x50186).bind fun u50196 => if (u50192 ≠ u50196) then (some false) else
(play_Dice_Odd (v50146, v50150)).bind fun u50203 => (play_Dice_Scheme u50203.2).bind fun u50210 => law29_PlannerSteps_L3 (law29_PlannerSteps_J2 rec50138 u50210.2.1) u50210.2.2 x50186.1 x50186.2.1 x50186.2.2.1 x50186.2.2.2.1 x50186.2.2.2.2.1 x50186.2.2.2.2.2.1 x50186.2.2.2.2.2.2.1 x50186.2.2.2.2.2.2.2.1 x50186.2.2.2.2.2.2.2.2.1 x50186.2.2.2.2.2.2.2.2.2 v50151 v50152 v50153 v50154 v50155 v50156 v50157 v50158 v50159 v50160 v50161 v50162 v50163 v50164 v50165 v50166 v50167 v50168 v50169 v50170 v50171 v50172 v50173 v50174 v50175 v50176 v50177 v50178 v50179 v50180 ([(v50167, v50168, v50169, v50170), u50203.1, u50210.1] : List (Int × Int × Int × Int)) 
def law29_PlannerSteps_L4 (kx33431 : (List Int) → Int → Int → Int → Int → Int → Int → Int → Int → Int → Int → Int → Int → Int → Int → Int → Int → Int → Int → Int → Int → Int → Int → Int → Int → Int → Int → Int → Int → Int → Int → Int → Option Bool) : (List (Int × Int × Int × Int × Int × Int × Int × (Int × Int × Int))) → (List Int) → Int → Int → Int → Int → Int → Int → Int → Int → Int → Int → Int → Int → Int → Int → Int → Int → Int → Int → Int → Int → Int → Int → Int → Int → Int → Int → Int → Int → Int → Int → Int → Option Bool
  | [], v50146, v50150, v50151, v50152, v50153, v50154, v50155, v50156, v50157, v50158, v50159, v50160, v50161, v50162, v50163, v50164, v50165, v50166, v50167, v50168, v50169, v50170, v50171, v50172, v50173, v50174, v50175, v50176, v50177, v50178, v50179, v50180 => kx33431 v50146 v50150 v50151 v50152 v50153 v50154 v50155 v50156 v50157 v50158 v50159 v50160 v50161 v50162 v50163 v50164 v50165 v50166 v50167 v50168 v50169 v50170 v50171 v50172 v50173 v50174 v50175 v50176 v50177 v50178 v50179 v50180
  | x50186 :: xs, v50146, v50150, v50151, v50152, v50153, v50154, v50155, v50156, v50157, v50158, v50159, v50160, v50161, v50162, v50163, v50164, v50165, v50166, v50167, v50168, v50169, v50170, v50171, v50172, v50173, v50174, v50175, v50176, v50177, v50178, v50179, v50180 => law29_PlannerSteps_B4 kx33431 (law29_PlannerSteps_L4 kx33431 xs) x50186 v50146 v50150 v50151 v50152 v50153 v50154 v50155 v50156 v50157 v50158 v50159 v50160 v50161 v50162 v50163 v50164 v50165 v50166 v50167 v50168 v50169 v50170 v50171 v50172 v50173 v50174 v50175 v50176 v50177 v50178 v50179 v50180
def law29_PlannerSteps (x0 : (List Int)) (x1 : (Int × Int × Int × Int × Int × Int × Int × (Int × Int × Int))) (x2 : (Int × Int × Int × Int)) (x3 : ((Int × Int × Int × Int) × (Int × Int × Int) × Int)) (x4 : ((Int × Int × Int × Int) × (Int × Int × Int) × Int)) : Option Bool :=
  (law29_sane).bind fun u5 => if ((!u5) = true) then (some false) else
(play_New x0).bind fun u12 => (law29_wanted u12).bind fun u20 => (law29_wanted u20.2).bind fun u27 => law29_PlannerSteps_L4 law29_PlannerSteps_J1 ([x1, u20.1, u27.1] : List (Int × Int × Int × Int × Int × Int × Int × (Int × Int × Int))) u27.2.1 u27.2.2 x4.1.1 x4.1.2.1 x4.1.2.2.1 x4.1.2.2.2 x4.2.1.1 x4.2.1.2.1 x4.2.1.2.2 x4.2.2 x3.1.1 x3.1.2.1 x3.1.2.2.1 x3.1.2.2.2 x3.2.1.1 x3.2.1.2.1 x3.2.1.2.2 x3.2.2 x2.1 x2.2.1 x2.2.2.1 x2.2.2.2 x1.1 x1.2.1 x1.2.2.1 x1.2.2.2.1 x1.2.2.2.2.1 x1.2.2.2.2.2.1 x1.2.2.2.2.2.2.1 x1.2.2.2.2.2.2.2.1 x1.2.2.2.2.2.2.2.2.1 x1.2.2.2.2.2.2.2.2.2

end Go.Proofs.Ytmjidoadjinhgaa
