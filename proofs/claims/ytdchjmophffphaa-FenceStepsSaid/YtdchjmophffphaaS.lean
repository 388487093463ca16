/- The lifted functions. Printed by wip/lift/drive.py. -/
import Derived.Test.YtdchjmophffphaaP1
import Derived.Test.YtdchjmophffphaaK19
namespace Go.Proofs.Ytdchjmophffphaa
set_option linter.unusedVariables false

def fence_sized (x0 : Int) : Option Bool :=
  some (decide ((2 ≤ x0) ∧ (x0 ≤ 8)))

def fence_proper (x0 : ByteArray) : Option Bool :=
  some (decide ((1 ≤ (x0.size : Int)) ∧ ((x0.size : Int) ≤ 32)))

def fence_ascend_B1 (z71 : List ByteArray) (rec65 : Option Bool) (x74 : ByteArray) (i65 : Nat) : Option Bool :=
  (fence_proper x74).bind fun u79 => (if ((!u79) = true) then (some true) else (if (0 < (i65 : Int)) then ((lidx z71 (w64 ((i65 : Int) - 1))).bind fun u127 => some (decide (¬ sLt u127 x74))) else some false).bind fun u121 => some u121).bind fun u104 => if (u104 = true) then (some false) else
 rec65
def fence_ascend_L1 (z71 : List ByteArray) : (List ByteArray) → Nat → Option Bool
  | [], i65 => some true
  | x74 :: xs, i65 => fence_ascend_B1 z71 (fence_ascend_L1 z71 xs (i65 + 1)) x74 i65 
def fence_ascend (x0 : (List ByteArray)) : Option Bool :=
  fence_ascend_L1 x0 x0 0 

def fence_Check (x0 : (Int × (List ByteArray))) : Option Int :=
  (fence_sized x0.1).bind fun u2 => (if ((((!u2) = true) ∨ ((x0.2.length : Int) < 1)) ∨ (256 < (x0.2.length : Int))) then (some true) else (fence_ascend x0.2).bind fun u30 => some (!u30)).bind fun u20 => if (u20 = true) then (some 2) else
 some 0

def sort_Search_B1 (z20 : Int → Option Bool) (rec15 : Int → Int → Option Int) (v16 : Int) (v17 : Int) : Option Int :=
  if (v16 < v17) then ((z20 (w64 ((IntKind.u64.wrap (w64 (v16 + v17))) / 2))).bind fun u25 => if ((!u25) = true) then (rec15 (w64 ((w64 ((IntKind.u64.wrap (w64 (v16 + v17))) / 2)) + 1)) v17) else
 rec15 v16 (w64 ((IntKind.u64.wrap (w64 (v16 + v17))) / 2))) else
 some v16
def sort_Search_L1 (z20 : Int → Option Bool) : Nat → Int → Int → Option Int
  | 0, _, _ => none
  | n + 1, v16, v17 => sort_Search_B1 z20 (sort_Search_L1 z20 n) v16 v17
def sort_Search (x0 : Int) (x1 : Int → Option Bool) : Option Int :=
  sort_Search_L1 x1 big 0 x0

def sort_SearchStrings_f1 (x0 : Int) (x1 : (List ByteArray)) (x2 : ByteArray) : Option Bool :=
  (lidx x1 x0).bind fun u1 => some (decide (¬ sLt u1 x2))

def sort_SearchStrings (x0 : (List ByteArray)) (x1 : ByteArray) : Option Int :=
  (sort_Search (x0.length : Int) (fun y0 => sort_SearchStrings_f1 y0 x0 x1)).bind fun u13 => some u13

def fence_behind_f1 (x0 : Int) (x1 : (List ByteArray)) (x2 : ByteArray) : Option Bool :=
  (lidx x1 x0).bind fun u1 => some (decide (sLt x2 u1))

def fence_behind (x0 : (List ByteArray)) (x1 : ByteArray) : Option Int :=
  (sort_Search (x0.length : Int) (fun y0 => fence_behind_f1 y0 x0 x1)).bind fun u13 => some u13

def fence_last (x0 : (List ByteArray)) (x1 : ByteArray) : Option Int :=
  (fence_behind x0 x1).bind fun u1 => some (max 0 (w64 (u1 - 1)))

def fence_Range_B1 (z93 : ByteArray) (z94 : Int) (z95 : Int) (z96 : Int) (z97 : Int) (z98 : List ByteArray) (rec83 : (List Int) → Int → Option ((List Int) × Int × Int)) (v84 : List Int) (v90 : Int) : Option ((List Int) × Int × Int) :=
  if (v90 < z96) then ((fence_last z98 z93).bind fun u103 => (nz z97).bind fun _ => (lapp v84 ([(min (w64 ((w64 (Int.tdiv u103 z97)) + v90)) z95)] : List Int)).bind fun u116 => rec83 u116 (w64 (v90 + 1))) else
 some (v84, z94, 0)
def fence_Range_L1 (z93 : ByteArray) (z94 : Int) (z95 : Int) (z96 : Int) (z97 : Int) (z98 : List ByteArray) : Nat → (List Int) → Int → Option ((List Int) × Int × Int)
  | 0, _, _ => none
  | n + 1, v84, v90 => fence_Range_B1 z93 z94 z95 z96 z97 z98 (fence_Range_L1 z93 z94 z95 z96 z97 z98 n) v84 v90
def fence_Range (x0 : (Int × (List ByteArray))) (x1 : ByteArray) (x2 : Int) : Option ((List Int) × Int × Int) :=
  (fence_Check x0).bind fun u2 => if (u2 ≠ 0) then (some (([] : List Int), 0, u2)) else
(fence_proper x1).bind fun u10 => if ((((!u10) = true) ∨ (x2 < 1)) ∨ (64 < x2)) then (some (([] : List Int), 0, 1)) else
(sort_SearchStrings x0.2 x1).bind fun u26 => (nz x0.1).bind fun _ => fence_Range_L1 x1 u26 (w64 (Int.tdiv (w64 ((x0.2.length : Int) - 1)) x0.1)) x2 x0.1 x0.2 big ([] : List Int) 0

def slices_Clone_Lstringstring (x0 : (List ByteArray)) : Option (List ByteArray) :=
  (lapp ([] : List ByteArray) x0).bind fun u11 => some u11

def slices_Chunk_Lstringstring_f1_B1 (z31 : List ByteArray) (z32 : Int) (rec23 : Int → Option (List (List ByteArray))) (v28 : Int) : Option (List (List ByteArray)) :=
  if (v28 < (z31.length : Int)) then ((lsub z31 v28 (z31.length : Int)).bind fun u37 => (lsub3 z31 v28 (w64 (v28 + (min z32 (u37.length : Int)))) (w64 (v28 + (min z32 (u37.length : Int))))).bind fun u43 => yc u43 <| rec23 (w64 (v28 + z32))) else
 some []
def slices_Chunk_Lstringstring_f1_L1 (z31 : List ByteArray) (z32 : Int) : Nat → Int → Option (List (List ByteArray))
  | 0, _ => none
  | n + 1, v28 => slices_Chunk_Lstringstring_f1_B1 z31 z32 (slices_Chunk_Lstringstring_f1_L1 z31 z32 n) v28
def slices_Chunk_Lstringstring_f1 (x1 : (List ByteArray)) (x2 : Int) : Option ((List (List ByteArray))) :=
  slices_Chunk_Lstringstring_f1_L1 x1 x2 big 0

def slices_Chunk_Lstringstring_J1 (z9 : Int) (z10 : List ByteArray) : Option (List (List ByteArray)) :=
  (slices_Chunk_Lstringstring_f1 z10 z9).bind fun u21 => some u21
def slices_Chunk_Lstringstring (x0 : (List ByteArray)) (x1 : Int) : Option (List (List ByteArray)) :=
  if (x1 < 1) then (none) else
(slices_Chunk_Lstringstring_J1 x1 x0)

def fence_levels_J1 (rec255 : (List (List ByteArray)) → (List ByteArray) → Option (List (List ByteArray))) (z396 : List (List ByteArray)) (v386 : List ByteArray) : Option (List (List ByteArray)) :=
  (lapp z396 ([v386] : List (List ByteArray))).bind fun u409 => rec255 u409 v386
def fence_levels_B2 (kx392 : (List ByteArray) → Option (List (List ByteArray))) (rec466 : (List ByteArray) → Option (List (List ByteArray))) (x478 : (List ByteArray)) (v460 : List ByteArray) : Option (List (List ByteArray)) :=
  (lidx x478 0).bind fun u488 => (lapp v460 ([u488] : List ByteArray)).bind fun u500 => rec466 u500
def fence_levels_L2 (kx392 : (List ByteArray) → Option (List (List ByteArray))) : List (List ByteArray) → (List ByteArray) → Option (List (List ByteArray))
  | [], v460 => kx392 v460
  | x478 :: xs, v460 => fence_levels_B2 kx392 (fence_levels_L2 kx392 xs) x478 v460
def fence_levels_B3 (z273 : Int) (rec255 : (List (List ByteArray)) → (List ByteArray) → Option (List (List ByteArray))) (v261 : List (List ByteArray)) (v267 : List ByteArray) : Option (List (List ByteArray)) :=
  if (z273 < (v267.length : Int)) then ((slices_Chunk_Lstringstring v267 z273).bind fun u280 => fence_levels_L2 (fence_levels_J1 rec255 v261) u280 ([] : List ByteArray)) else
 some v261
def fence_levels_L3 (z273 : Int) : Nat → (List (List ByteArray)) → (List ByteArray) → Option (List (List ByteArray))
  | 0, _, _ => none
  | n + 1, v261, v267 => fence_levels_B3 z273 (fence_levels_L3 z273 n) v261 v267
def fence_levels (x0 : (Int × (List ByteArray))) : Option (List (List ByteArray)) :=
  (slices_Clone_Lstringstring x0.2).bind fun u2 => fence_levels_L3 x0.1 big ([u2] : List (List ByteArray)) x0.2

def fence_Levels (x0 : (Int × (List ByteArray))) : Option ((List (List ByteArray)) × Int) :=
  (fence_Check x0).bind fun u2 => if (u2 ≠ 0) then (some (([] : List (List ByteArray)), u2)) else
(fence_levels x0).bind fun u10 => some (u10, 0)

def fence_Steps_B1 (z33 : Int) (rec28 : Int → Int → Option (Int × Int)) (v29 : Int) (v30 : Int) : Option (Int × Int) :=
  if (z33 < v29) then ((nz z33).bind fun _ => rec28 (w64 (Int.tdiv (w64 ((w64 (v29 + z33)) - 1)) z33)) (w64 (v30 + 1))) else
 some (v30, 0)
def fence_Steps_L1 (z33 : Int) : Nat → Int → Int → Option (Int × Int)
  | 0, _, _ => none
  | n + 1, v29, v30 => fence_Steps_B1 z33 (fence_Steps_L1 z33 n) v29 v30
def fence_Steps (x0 : Int) (x1 : Int) : Option (Int × Int) :=
  (if ((x0 < 1) ∨ (256 < x0)) then (some true) else (fence_sized x1).bind fun u43 => some (!u43)).bind fun u11 => if (u11 = true) then (some (0, 1)) else
 fence_Steps_L1 x1 big x0 1

def slices_Backward_LLstringLstring_f1_B1 (z27 : List (List ByteArray)) (rec19 : Int → Option (List (Int × (List ByteArray)))) (v24 : Int) : Option (List (Int × (List ByteArray))) :=
  if (0 ≤ v24) then ((lidx z27 v24).bind fun u32 => yc (v24, u32) <| rec19 (w64 (v24 - 1))) else
 some []
def slices_Backward_LLstringLstring_f1_L1 (z27 : List (List ByteArray)) : Nat → Int → Option (List (Int × (List ByteArray)))
  | 0, _ => none
  | n + 1, v24 => slices_Backward_LLstringLstring_f1_B1 z27 (slices_Backward_LLstringLstring_f1_L1 z27 n) v24
def slices_Backward_LLstringLstring_f1 (x1 : (List (List ByteArray))) : Option ((List (Int × (List ByteArray)))) :=
  slices_Backward_LLstringLstring_f1_L1 x1 big (w64 ((x1.length : Int) - 1))

def slices_Backward_LLstringLstring (x0 : (List (List ByteArray))) : Option (List (Int × (List ByteArray))) :=
  (slices_Backward_LLstringLstring_f1 x0).bind fun u7 => some u7

def fence_blockOf (x0 : (List ByteArray)) (x1 : Int) (x2 : Int) : Option (List ByteArray) :=
  (lsub x0 (w64 (x2 * x1)) (min (w64 ((w64 (x2 + 1)) * x1)) (x0.length : Int))).bind fun u1 => some u1

def fence_Probe_J1 (z181 : ByteArray) (z183 : List ByteArray) (v172 : List Int) (v178 : Int) : Option ((List Int) × Int × Bool × Int) :=
  (lidx z183 v178).bind fun u184 => some (v172, v178, (decide (u184 = z181)), 0)
def fence_Probe_B2 (kx179 : (List Int) → Int → Option ((List Int) × Int × Bool × Int)) (z247 : Int) (z251 : ByteArray) (rec259 : (List Int) → Int → Option ((List Int) × Int × Bool × Int)) (x271 : (Int × (List ByteArray))) (v252 : List Int) (v258 : Int) : Option ((List Int) × Int × Bool × Int) :=
  (lapp v252 ([v258] : List Int)).bind fun u293 => (fence_blockOf x271.2 z247 v258).bind fun u296 => (fence_last u296 z251).bind fun u303 => rec259 u293 (w64 ((w64 (v258 * z247)) + u303))
def fence_Probe_L2 (kx179 : (List Int) → Int → Option ((List Int) × Int × Bool × Int)) (z247 : Int) (z251 : ByteArray) : List (Int × (List ByteArray)) → (List Int) → Int → Option ((List Int) × Int × Bool × Int)
  | [], v252, v258 => kx179 v252 v258
  | x271 :: xs, v252, v258 => fence_Probe_B2 kx179 z247 z251 (fence_Probe_L2 kx179 z247 z251 xs) x271 v252 v258
def fence_Probe (x0 : (Int × (List ByteArray))) (x1 : ByteArray) : Option ((List Int) × Int × Bool × Int) :=
  (fence_Check x0).bind fun u3 => if (u3 ≠ 0) then (some (([] : List Int), 0, false, u3)) else
(fence_proper x1).bind fun u11 => if ((!u11) = true) then (some (([] : List Int), 0, false, 1)) else
(fence_levels x0).bind fun u21 => (slices_Backward_LLstringLstring u21).bind fun u39 => fence_Probe_L2 (fence_Probe_J1 x1 x0.2) x0.1 x1 u39 ([] : List Int) 0

def ref04_Same_B1 (z29 : List Int) (rec22 : Option Bool) (x32 : Int) (i22 : Nat) : Option Bool :=
  (lidx z29 (i22 : Int)).bind fun u37 => if (x32 ≠ u37) then (some false) else
 rec22
def ref04_Same_L1 (z29 : List Int) : (List Int) → Nat → Option Bool
  | [], i22 => some true
  | x32 :: xs, i22 => ref04_Same_B1 z29 (ref04_Same_L1 z29 xs (i22 + 1)) x32 i22 
def ref04_Same (x0 : (List Int)) (x1 : (List Int)) : Option Bool :=
  if ((x0.length : Int) ≠ (x1.length : Int)) then (some false) else
 ref04_Same_L1 x1 x0 0 

def law21_sane : Option Bool :=
  (fence_Levels (3, ([⟨#[97]⟩, ⟨#[98]⟩, ⟨#[99]⟩, ⟨#[100]⟩, ⟨#[101]⟩, ⟨#[102]⟩, ⟨#[103]⟩, ⟨#[104]⟩, ⟨#[105]⟩] : List ByteArray))).bind fun u10 => (fence_Steps 9 3).bind fun u23 => (fence_Probe (3, ([⟨#[97]⟩, ⟨#[98]⟩, ⟨#[99]⟩, ⟨#[100]⟩, ⟨#[101]⟩, ⟨#[102]⟩, ⟨#[103]⟩, ⟨#[104]⟩, ⟨#[105]⟩] : List ByteArray)) ⟨#[101, 101]⟩).bind fun u27 => (fence_Range (3, ([⟨#[97]⟩, ⟨#[98]⟩, ⟨#[99]⟩, ⟨#[100]⟩, ⟨#[101]⟩, ⟨#[102]⟩, ⟨#[103]⟩, ⟨#[104]⟩, ⟨#[105]⟩] : List ByteArray)) ⟨#[101, 101]⟩ 3).bind fun u36 => (if ((((((u10.2 = 0) ∧ (u23.2 = 0)) ∧ (u27.2.2.2 = 0)) ∧ (u36.2.2 = 0)) ∧ ((u10.1.length : Int) = 2)) ∧ (u23.1 = 2)) then ((ref04_Same u27.1 ([0, 1] : List Int)).bind fun u186 => some u186) else some false).bind fun u101 => (if (((u101 = true) ∧ (u27.2.1 = 4)) ∧ ((!u27.2.2.1) = true)) then ((ref04_Same u36.1 ([1, 2, 2] : List Int)).bind fun u172 => some u172) else some false).bind fun u152 => some (decide ((u152 = true) ∧ (u36.2.1 = 5)))

def make_Few (x0 : (List Int)) : Option Bool :=
  some (decide ((x0.length : Int) ≤ 500))

def make_New (x0 : (List Int)) : Option ((List Int) × Int) :=
  some (x0, 0)

def make_Mod (x0 : Int) (x1 : Int) : Option Int :=
  (nz x1).bind fun _ => (nz x1).bind fun _ => some (Int.tmod (w64 ((Int.tmod x0 x1) + x1)) x1)

def make_Deck_Next (x0 : ((List Int) × Int)) (x1 : Int) : Option (Int × ((List Int) × Int)) :=
  if ((x1 < 1) ∨ ((x0.1.length : Int) ≤ x0.2)) then (some (0, x0)) else
(lidx x0.1 x0.2).bind fun u8 => (make_Mod u8 x1).bind fun u13 => some (u13, (x0.1, (w64 (x0.2 + 1))))

def make_Word_J1 (v97 : List Int) (v103 : List Int) (v107 : Int) : Option (ByteArray × ((List Int) × Int)) :=
  some ((ofB v97), (v103, v107))
def make_Word_B2 (kx108 : (List Int) → (List Int) → Int → Option (ByteArray × ((List Int) × Int))) (rec169 : (List Int) → Int → (List Int) → Int → Option (ByteArray × ((List Int) × Int))) (v170 : List Int) (v176 : Int) (v177 : List Int) (v181 : Int) : Option (ByteArray × ((List Int) × Int)) :=
  if (0 ≤ v176) then ((make_Deck_Next (v177, v181) 4).bind fun u188 => (lapp v170 ([(wu8 (w64 (97 + u188.1)))] : List Int)).bind fun u202 => rec169 u202 (w64 (v176 - 1)) u188.2.1 u188.2.2) else
 kx108 v170 v177 v181
def make_Word_L2 (kx108 : (List Int) → (List Int) → Int → Option (ByteArray × ((List Int) × Int))) : Nat → (List Int) → Int → (List Int) → Int → Option (ByteArray × ((List Int) × Int))
  | 0, _, _, _, _ => none
  | n + 1, v170, v176, v177, v181 => make_Word_B2 kx108 (make_Word_L2 kx108 n) v170 v176 v177 v181
def make_Word (x0 : ((List Int) × Int)) : Option (ByteArray × ((List Int) × Int)) :=
  (make_Deck_Next x0 4).bind fun u1 => make_Word_L2 make_Word_J1 big ([] : List Int) u1.1 u1.2.1 u1.2.2

def make_Words_J1 (rec250 : (List ByteArray) → Int → (List Int) → Int → Option ((List ByteArray) × ((List Int) × Int))) (z327 : Int) (z328 : ByteArray) (z329 : List Int) (z330 : List ByteArray) (v323 : Bool) (v324 : Int) : Option ((List ByteArray) × ((List Int) × Int)) :=
  if ((!v323) = true) then ((lapp z330 ([z328] : List ByteArray)).bind fun u340 => rec250 u340 (w64 (z327 - 1)) z329 v324) else
 rec250 z330 (w64 (z327 - 1)) z329 v324
def make_Words_B2 (kx325 : Bool → Int → Option ((List ByteArray) × ((List Int) × Int))) (z369 : ByteArray) (z372 : Int) (rec361 : Bool → Option ((List ByteArray) × ((List Int) × Int))) (x375 : ByteArray) (v365 : Bool) : Option ((List ByteArray) × ((List Int) × Int)) :=
  rec361 (decide ((v365 = true) ∨ (x375 = z369)))
def make_Words_L2 (kx325 : Bool → Int → Option ((List ByteArray) × ((List Int) × Int))) (z369 : ByteArray) (z372 : Int) : (List ByteArray) → Bool → Option ((List ByteArray) × ((List Int) × Int))
  | [], v365 => kx325 v365 z372
  | x375 :: xs, v365 => make_Words_B2 kx325 z369 z372 (make_Words_L2 kx325 z369 z372 xs) x375 v365
def make_Words_B3 (rec250 : (List ByteArray) → Int → (List Int) → Int → Option ((List ByteArray) × ((List Int) × Int))) (v255 : List ByteArray) (v261 : Int) (v262 : List Int) (v266 : Int) : Option ((List ByteArray) × ((List Int) × Int)) :=
  if (0 < v261) then ((make_Word (v262, v266)).bind fun u273 => make_Words_L2 (make_Words_J1 rec250 v261 u273.1 u273.2.1 v255) u273.1 u273.2.2 v255 false) else
 some (v255, (v262, v266))
def make_Words_L3 : Nat → (List ByteArray) → Int → (List Int) → Int → Option ((List ByteArray) × ((List Int) × Int))
  | 0, _, _, _, _ => none
  | n + 1, v255, v261, v262, v266 => make_Words_B3 (make_Words_L3 n) v255 v261 v262 v266
def make_Words (x0 : ((List Int) × Int)) (x1 : Int) : Option ((List ByteArray) × ((List Int) × Int)) :=
  (make_Deck_Next x0 (w64 (x1 + 1))).bind fun u1 => make_Words_L3 big ([] : List ByteArray) u1.1 u1.2.1 u1.2.2

def make_Fence_J1 (z647 : List Int) (v637 : List ByteArray) (v643 : Int) (v644 : Int) : Option ((Int × (List ByteArray)) × ((List Int) × Int)) :=
  (make_Deck_Next (z647, v643) 5).bind fun u649 => some (((w64 (2 + u649.1)), v637), u649.2)
def make_Fence_J2 (rec1060 : (List ByteArray) → Int → Int → Option ((Int × (List ByteArray)) × ((List Int) × Int))) (z1153 : ByteArray) (z1155 : List ByteArray) (v1146 : Int) (v1147 : Int) (v1148 : Int) : Option ((Int × (List ByteArray)) × ((List Int) × Int)) :=
  (if (0 < v1146) then ((lidx z1155 (w64 (v1146 - 1))).bind fun u1202 => some (decide (u1202 = z1153))) else some false).bind fun u1164 => if (u1164 = true) then (rec1060 z1155 v1147 v1148) else
(lapp z1155 ([ByteArray.empty] : List ByteArray)).bind fun u1179 => (lsub u1179 (w64 (v1146 + 1)) (u1179.length : Int)).bind fun u1182 => (lsub u1179 v1146 (u1179.length : Int)).bind fun u1185 => (lidx (lcpy u1179 (w64 (v1146 + 1)) u1182.length u1185) v1146).bind fun u1191 => (lupd (lcpy u1179 (w64 (v1146 + 1)) u1182.length u1185) v1146 z1153).bind fun u1196 => rec1060 u1196 v1147 v1148
def make_Fence_B3 (kx1149 : Int → Int → Int → Option ((Int × (List ByteArray)) × ((List Int) × Int))) (z1242 : ByteArray) (z1244 : Int) (z1245 : Int) (z1246 : List ByteArray) (rec1236 : Int → Option ((Int × (List ByteArray)) × ((List Int) × Int))) (v1237 : Int) : Option ((Int × (List ByteArray)) × ((List Int) × Int)) :=
  (if (0 < v1237) then ((lidx z1246 (w64 (v1237 - 1))).bind fun u1266 => some (decide (sLt z1242 u1266))) else some false).bind fun u1257 => if (u1257 = true) then (rec1236 (w64 (v1237 - 1))) else
 kx1149 v1237 z1244 z1245
def make_Fence_L3 (kx1149 : Int → Int → Int → Option ((Int × (List ByteArray)) × ((List Int) × Int))) (z1242 : ByteArray) (z1244 : Int) (z1245 : Int) (z1246 : List ByteArray) : Nat → Int → Option ((Int × (List ByteArray)) × ((List Int) × Int))
  | 0, _ => none
  | n + 1, v1237 => make_Fence_B3 kx1149 z1242 z1244 z1245 z1246 (make_Fence_L3 kx1149 z1242 z1244 z1245 z1246 n) v1237
def make_Fence_B4 (kx645 : (List ByteArray) → Int → Int → Option ((Int × (List ByteArray)) × ((List Int) × Int))) (rec1060 : (List ByteArray) → Int → Int → Option ((Int × (List ByteArray)) × ((List Int) × Int))) (x1078 : ByteArray) (v1064 : List ByteArray) (v1070 : Int) (v1071 : Int) : Option ((Int × (List ByteArray)) × ((List Int) × Int)) :=
  make_Fence_L3 (make_Fence_J2 rec1060 x1078 v1064) x1078 v1070 v1071 v1064 big (v1064.length : Int)
def make_Fence_L4 (kx645 : (List ByteArray) → Int → Int → Option ((Int × (List ByteArray)) × ((List Int) × Int))) : (List ByteArray) → (List ByteArray) → Int → Int → Option ((Int × (List ByteArray)) × ((List Int) × Int))
  | [], v1064, v1070, v1071 => kx645 v1064 v1070 v1071
  | x1078 :: xs, v1064, v1070, v1071 => make_Fence_B4 kx645 (make_Fence_L4 kx645 xs) x1078 v1064 v1070 v1071
def make_Fence (x0 : ((List Int) × Int)) : Option ((Int × (List ByteArray)) × ((List Int) × Int)) :=
  (make_Words x0 24).bind fun u2 => (lapp u2.1 ([⟨#[109]⟩] : List ByteArray)).bind fun u25 => make_Fence_L4 (make_Fence_J1 u2.2.1) u25 ([] : List ByteArray) u2.2.2 0

def law21_FenceRanges_J1 (z271 : Int) (z273 : List ByteArray) (z274 : List Int) (v267 : Int) (v268 : Int) : Option Bool :=
  (nz v268).bind fun _ => (lidx z274 0).bind fun u277 => (if (u277 ≤ (w64 (Int.tdiv z271 v268))) then ((if (z271 = (z273.length : Int)) then (some true) else (lidx z274 0).bind fun u323 => some (decide (z271 ≤ (w64 ((w64 (u323 * v268)) + v268))))).bind fun u316 => some u316) else some false).bind fun u303 => some u303
def law21_FenceRanges_B2 (kx269 : Int → Int → Option Bool) (z403 : Int) (z406 : Int) (z407 : Int) (z409 : List Int) (rec396 : Option Bool) (x411 : Int) (i396 : Nat) : Option Bool :=
  (if ((x411 < 0) ∨ (z403 < x411)) then (some true) else (if (0 < (i396 : Int)) then ((lidx z409 (w64 ((i396 : Int) - 1))).bind fun u464 => some (decide (x411 ≠ (min (w64 (u464 + 1)) z403)))) else some false).bind fun u458 => some u458).bind fun u441 => if (u441 = true) then (some false) else
 rec396
def law21_FenceRanges_L2 (kx269 : Int → Int → Option Bool) (z403 : Int) (z406 : Int) (z407 : Int) (z409 : List Int) : (List Int) → Nat → Option Bool
  | [], i396 => kx269 z406 z407
  | x411 :: xs, i396 => law21_FenceRanges_B2 kx269 z403 z406 z407 z409 (law21_FenceRanges_L2 kx269 z403 z406 z407 z409 xs (i396 + 1)) x411 i396 
def law21_FenceRanges (x0 : (List Int)) (x1 : Int) : Option Bool :=
  (law21_sane).bind fun u1 => if ((!u1) = true) then (some false) else
(make_Few x0).bind fun u8 => if ((!u8) = true) then (some true) else
(make_New x0).bind fun u15 => (make_Fence u15).bind fun u23 => (make_Word u23.2).bind fun u38 => (fence_Range u23.1 u38.1 (w64 (1 + (w64 (Int.tmod x1 9))))).bind fun u49 => (if ((((u49.2.2 ≠ 0) ∨ ((u49.1.length : Int) ≠ (w64 (1 + (w64 (Int.tmod x1 9)))))) ∨ (u49.2.1 < 0)) ∨ ((u23.1.2.length : Int) < u49.2.1)) then (some true) else (if (u49.2.1 < (u23.1.2.length : Int)) then ((lidx u23.1.2 u49.2.1).bind fun u506 => some (decide (sLt u506 u38.1))) else some false).bind fun u500 => some u500).bind fun u91 => (if (u91 = true) then (some true) else (if (0 < u49.2.1) then ((lidx u23.1.2 (w64 (u49.2.1 - 1))).bind fun u485 => some (decide (¬ sLt u485 u38.1))) else some false).bind fun u479 => some u479).bind fun u117 => if (u117 = true) then (some false) else
(nz u23.1.1).bind fun _ => law21_FenceRanges_L2 (law21_FenceRanges_J1 u49.2.1 u23.1.2 u49.1) (w64 (Int.tdiv (w64 ((u23.1.2.length : Int) - 1)) u23.1.1)) u38.2.2 u23.1.1 u49.1 u49.1 0 

def ref21_SameKeys_B1 (z29 : List ByteArray) (rec22 : Option Bool) (x32 : ByteArray) (i22 : Nat) : Option Bool :=
  (lidx z29 (i22 : Int)).bind fun u37 => if (x32 ≠ u37) then (some false) else
 rec22
def ref21_SameKeys_L1 (z29 : List ByteArray) : (List ByteArray) → Nat → Option Bool
  | [], i22 => some true
  | x32 :: xs, i22 => ref21_SameKeys_B1 z29 (ref21_SameKeys_L1 z29 xs (i22 + 1)) x32 i22 
def ref21_SameKeys (x0 : (List ByteArray)) (x1 : (List ByteArray)) : Option Bool :=
  if ((x0.length : Int) ≠ (x1.length : Int)) then (some false) else
 ref21_SameKeys_L1 x1 x0 0 

def law21_FenceSteps_J1 (z48 : Int) (z49 : Int) (z50 : Int) (z51 : Int) (z52 : Int) (z53 : Int) (z54 : Int) (z55 : Int) (v45 : Int) : Option Bool :=
  (if (((((((z51 = 0) ∧ (z53 = 0)) ∧ (z55 = 0)) ∧ (z50 ≤ z52)) ∧ (z54 ≤ z50)) ∧ ((decide (z50 = 1)) = (decide (z48 ≤ z49)))) ∧ (z48 ≤ v45)) then ((if (z50 = 1) then (some true) else (nz z49).bind fun _ => some (decide ((w64 (Int.tdiv v45 z49)) < z48))).bind fun u105 => some u105) else some false).bind fun u95 => some u95
def law21_FenceSteps_B2 (kx46 : Int → Option Bool) (z129 : Int) (z130 : Int) (rec123 : Int → Int → Option Bool) (v124 : Int) (v125 : Int) : Option Bool :=
  if (v125 < z130) then (rec123 (w64 (v124 * z129)) (w64 (v125 + 1))) else
 kx46 v124
def law21_FenceSteps_L2 (kx46 : Int → Option Bool) (z129 : Int) (z130 : Int) : Nat → Int → Int → Option Bool
  | 0, _, _ => none
  | n + 1, v124, v125 => law21_FenceSteps_B2 kx46 z129 z130 (law21_FenceSteps_L2 kx46 z129 z130 n) v124 v125
def law21_FenceSteps (x0 : Int) (x1 : Int) (x2 : Int) (x3 : Int) : Option Bool :=
  (law21_sane).bind fun u1 => if ((!u1) = true) then (some false) else
(fence_Steps (w64 (1 + (w64 x0))) (w64 (2 + (w64 (Int.tmod x2 7))))).bind fun u8 => (fence_Steps (min 256 (w64 ((w64 (1 + (w64 x0))) + (w64 x1)))) (w64 (2 + (w64 (Int.tmod x2 7))))).bind fun u12 => (fence_Steps (w64 (1 + (w64 x0))) (min 8 (w64 ((w64 (2 + (w64 (Int.tmod x2 7)))) + (w64 (Int.tmod x3 7)))))).bind fun u16 => law21_FenceSteps_L2 (law21_FenceSteps_J1 (w64 (1 + (w64 x0))) (w64 (2 + (w64 (Int.tmod x2 7)))) u8.1 u8.2 u12.1 u12.2 u16.1 u16.2) (w64 (2 + (w64 (Int.tmod x2 7)))) u8.1 big 1 0

def ref20_Key (x0 : ByteArray) : Option Bool :=
  some (decide ((1 ≤ (x0.size : Int)) ∧ ((x0.size : Int) ≤ 32)))

def ref21_ascend_B1 (z71 : List ByteArray) (rec65 : Option Bool) (x74 : ByteArray) (i65 : Nat) : Option Bool :=
  (ref20_Key x74).bind fun u79 => (if ((!u79) = true) then (some true) else (if (0 < (i65 : Int)) then ((lidx z71 (w64 ((i65 : Int) - 1))).bind fun u127 => some (decide (¬ sLt u127 x74))) else some false).bind fun u121 => some u121).bind fun u104 => if (u104 = true) then (some false) else
 rec65
def ref21_ascend_L1 (z71 : List ByteArray) : (List ByteArray) → Nat → Option Bool
  | [], i65 => some true
  | x74 :: xs, i65 => ref21_ascend_B1 z71 (ref21_ascend_L1 z71 xs (i65 + 1)) x74 i65 
def ref21_ascend (x0 : (List ByteArray)) : Option Bool :=
  ref21_ascend_L1 x0 x0 0 

def ref21_Check (x0 : (Int × (List ByteArray))) : Option Int :=
  (if ((((x0.1 < 2) ∨ (8 < x0.1)) ∨ ((x0.2.length : Int) < 1)) ∨ (256 < (x0.2.length : Int))) then (some true) else (ref21_ascend x0.2).bind fun u30 => some (!u30)).bind fun u20 => if (u20 = true) then (some 2) else
 some 0

def ref21_Levels_J1 (rec231 : (List ByteArray) → (List (List ByteArray)) → Int → Option ((List (List ByteArray)) × Int)) (z346 : List (List ByteArray)) (v336 : List ByteArray) (v342 : Int) : Option ((List (List ByteArray)) × Int) :=
  (lapp z346 ([v336] : List (List ByteArray))).bind fun u359 => rec231 v336 u359 v342
def ref21_Levels_B2 (kx343 : (List ByteArray) → Int → Option ((List (List ByteArray)) × Int)) (z422 : List ByteArray) (z423 : Int) (rec412 : (List ByteArray) → Int → Option ((List (List ByteArray)) × Int)) (v413 : List ByteArray) (v419 : Int) : Option ((List (List ByteArray)) × Int) :=
  if (v419 < (z422.length : Int)) then ((lidx z422 v419).bind fun u430 => (lapp v413 ([u430] : List ByteArray)).bind fun u442 => rec412 u442 (w64 (v419 + z423))) else
 kx343 v413 z423
def ref21_Levels_L2 (kx343 : (List ByteArray) → Int → Option ((List (List ByteArray)) × Int)) (z422 : List ByteArray) (z423 : Int) : Nat → (List ByteArray) → Int → Option ((List (List ByteArray)) × Int)
  | 0, _, _ => none
  | n + 1, v413, v419 => ref21_Levels_B2 kx343 z422 z423 (ref21_Levels_L2 kx343 z422 z423 n) v413 v419
def ref21_Levels_B3 (rec231 : (List ByteArray) → (List (List ByteArray)) → Int → Option ((List (List ByteArray)) × Int)) (v236 : List ByteArray) (v240 : List (List ByteArray)) (v246 : Int) : Option ((List (List ByteArray)) × Int) :=
  if (v246 < (v236.length : Int)) then (ref21_Levels_L2 (ref21_Levels_J1 rec231 v240) v236 v246 big ([] : List ByteArray) 0) else
 some (v240, 0)
def ref21_Levels_L3 : Nat → (List ByteArray) → (List (List ByteArray)) → Int → Option ((List (List ByteArray)) × Int)
  | 0, _, _, _ => none
  | n + 1, v236, v240, v246 => ref21_Levels_B3 (ref21_Levels_L3 n) v236 v240 v246
def ref21_Levels (x0 : (Int × (List ByteArray))) : Option ((List (List ByteArray)) × Int) :=
  (ref21_Check x0).bind fun u2 => if (u2 ≠ 0) then (some (([] : List (List ByteArray)), u2)) else
(lapp ([] : List ByteArray) x0.2).bind fun u15 => ref21_Levels_L3 big u15 ([u15] : List (List ByteArray)) x0.1

def ref21_last_B1 (z22 : ByteArray) (rec15 : Int → Option Int) (x26 : ByteArray) (i15 : Nat) (v19 : Int) : Option Int :=
  if (¬ sLt z22 x26) then (rec15 (i15 : Int)) else
 rec15 v19
def ref21_last_L1 (z22 : ByteArray) : (List ByteArray) → Nat → Int → Option Int
  | [], i15, v19 => some v19
  | x26 :: xs, i15, v19 => ref21_last_B1 z22 (ref21_last_L1 z22 xs (i15 + 1)) x26 i15 v19
def ref21_last (x0 : (List ByteArray)) (x1 : ByteArray) : Option Int :=
  ref21_last_L1 x1 x0 0 0

def ref21_Probe_J1 (z161 : ByteArray) (z162 : List ByteArray) (v151 : List Int) (v157 : Int) (v158 : Int) : Option ((List Int) × Int × Bool × Int) :=
  (lidx z162 v157).bind fun u164 => some (v151, v157, (decide (u164 = z161)), 0)
def ref21_Probe_B2 (kx159 : (List Int) → Int → Int → Option ((List Int) × Int × Bool × Int)) (z258 : ByteArray) (z259 : Int) (z261 : List (List ByteArray)) (rec247 : (List Int) → Int → Int → Option ((List Int) × Int × Bool × Int)) (v248 : List Int) (v254 : Int) (v255 : Int) : Option ((List Int) × Int × Bool × Int) :=
  if (0 ≤ v255) then ((lapp v248 ([v254] : List Int)).bind fun u273 => (lidx z261 v255).bind fun u276 => (lsub u276 (w64 (v254 * z259)) (min (u276.length : Int) (w64 ((w64 (v254 + 1)) * z259)))).bind fun u284 => (ref21_last u284 z258).bind fun u290 => rec247 u273 (w64 ((w64 (v254 * z259)) + u290)) (w64 (v255 - 1))) else
 kx159 v248 v254 z259
def ref21_Probe_L2 (kx159 : (List Int) → Int → Int → Option ((List Int) × Int × Bool × Int)) (z258 : ByteArray) (z259 : Int) (z261 : List (List ByteArray)) : Nat → (List Int) → Int → Int → Option ((List Int) × Int × Bool × Int)
  | 0, _, _, _ => none
  | n + 1, v248, v254, v255 => ref21_Probe_B2 kx159 z258 z259 z261 (ref21_Probe_L2 kx159 z258 z259 z261 n) v248 v254 v255
def ref21_Probe (x0 : (Int × (List ByteArray))) (x1 : ByteArray) : Option ((List Int) × Int × Bool × Int) :=
  (ref21_Levels x0).bind fun u2 => if (u2.2 ≠ 0) then (some (([] : List Int), 0, false, u2.2)) else
(ref20_Key x1).bind fun u19 => if ((!u19) = true) then (some (([] : List Int), 0, false, 1)) else
 ref21_Probe_L2 (ref21_Probe_J1 x1 x0.2) x1 x0.1 u2.1 big ([] : List Int) 0 (w64 ((u2.1.length : Int) - 1))

def ref21_Range_J1 (z122 : ByteArray) (z123 : Int) (z124 : List ByteArray) (v113 : List Int) (v119 : Int) : Option ((List Int) × Int × Int) :=
  (lidx z124 z123).bind fun u126 => if (sLt u126 z122) then (some (v113, (w64 (z123 + 1)), 0)) else
 some (v113, z123, 0)
def ref21_Range_B2 (kx120 : (List Int) → Int → Option ((List Int) × Int × Int)) (z189 : Int) (z190 : Int) (z191 : Int) (z192 : Int) (rec178 : (List Int) → Int → Option ((List Int) × Int × Int)) (v179 : List Int) (v185 : Int) : Option ((List Int) × Int × Int) :=
  if (v185 < z189) then ((nz z192).bind fun _ => (lapp v179 ([(min (w64 ((w64 (Int.tdiv z190 z192)) + v185)) z191)] : List Int)).bind fun u208 => rec178 u208 (w64 (v185 + 1))) else
 kx120 v179 z192
def ref21_Range_L2 (kx120 : (List Int) → Int → Option ((List Int) × Int × Int)) (z189 : Int) (z190 : Int) (z191 : Int) (z192 : Int) : Nat → (List Int) → Int → Option ((List Int) × Int × Int)
  | 0, _, _ => none
  | n + 1, v179, v185 => ref21_Range_B2 kx120 z189 z190 z191 z192 (ref21_Range_L2 kx120 z189 z190 z191 z192 n) v179 v185
def ref21_Range (x0 : (Int × (List ByteArray))) (x1 : ByteArray) (x2 : Int) : Option ((List Int) × Int × Int) :=
  (ref21_Check x0).bind fun u2 => if (u2 ≠ 0) then (some (([] : List Int), 0, u2)) else
(ref20_Key x1).bind fun u10 => if ((((!u10) = true) ∨ (x2 < 1)) ∨ (64 < x2)) then (some (([] : List Int), 0, 1)) else
(ref21_Probe x0 x1).bind fun u26 => (nz x0.1).bind fun _ => ref21_Range_L2 (ref21_Range_J1 x1 u26.2.1 x0.2) x2 u26.2.1 (w64 (Int.tdiv (w64 ((x0.2.length : Int) - 1)) x0.1)) x0.1 big ([] : List Int) 0

def fence_Next (x0 : Int) (x1 : Int) (x2 : (List ByteArray)) (x3 : ByteArray) : Option (Int × Int) :=
  (fence_sized x0).bind fun u1 => (if ((((!u1) = true) ∨ (x1 < 0)) ∨ (256 < x1)) then (some true) else (fence_proper x3).bind fun u57 => some (!u57)).bind fun u19 => if (u19 = true) then (some (0, 1)) else
(if (((x2.length : Int) < 1) ∨ (x0 < (x2.length : Int))) then (some true) else (fence_ascend x2).bind fun u51 => some (!u51)).bind fun u37 => if (u37 = true) then (some (0, 2)) else
(fence_last x2 x3).bind fun u45 => some ((w64 ((w64 (x1 * x0)) + u45)), 0)

def ref21_Next (x0 : Int) (x1 : Int) (x2 : (List ByteArray)) (x3 : ByteArray) : Option (Int × Int) :=
  (if ((((x0 < 2) ∨ (8 < x0)) ∨ (x1 < 0)) ∨ (256 < x1)) then (some true) else (ref20_Key x3).bind fun u57 => some (!u57)).bind fun u19 => if (u19 = true) then (some (0, 1)) else
(if (((x2.length : Int) < 1) ∨ (x0 < (x2.length : Int))) then (some true) else (ref21_ascend x2).bind fun u51 => some (!u51)).bind fun u37 => if (u37 = true) then (some (0, 2)) else
(ref21_last x2 x3).bind fun u45 => some ((w64 ((w64 (x1 * x0)) + u45)), 0)

def ref21_Steps_B1 (z30 : Int) (rec25 : Int → Int → Option (Int × Int)) (v26 : Int) (v27 : Int) : Option (Int × Int) :=
  if (z30 < v26) then ((nz z30).bind fun _ => rec25 (w64 (Int.tdiv (w64 ((w64 (v26 + z30)) - 1)) z30)) (w64 (v27 + 1))) else
 some (v27, 0)
def ref21_Steps_L1 (z30 : Int) : Nat → Int → Int → Option (Int × Int)
  | 0, _, _ => none
  | n + 1, v26, v27 => ref21_Steps_B1 z30 (ref21_Steps_L1 z30 n) v26 v27
def ref21_Steps (x0 : Int) (x1 : Int) : Option (Int × Int) :=
  if ((((x0 < 1) ∨ (256 < x0)) ∨ (x1 < 2)) ∨ (8 < x1)) then (some (0, 1)) else
 ref21_Steps_L1 x1 big x0 1

def law21_FenceDoes_B1 (rec35744 : Option Bool) (x35760 : (Int × Int)) : Option Bool :=
  (fence_Steps x35760.1 x35760.2).bind fun u35766 => (ref21_Steps x35760.1 x35760.2).bind fun u35770 => if ((u35766.1 ≠ u35770.1) ∨ (u35766.2 ≠ u35770.2)) then (some false) else
 rec35744
def law21_FenceDoes_L1 : (List (Int × Int)) → Option Bool
  | [] => some true
  | x35760 :: xs => law21_FenceDoes_B1 (law21_FenceDoes_L1 xs) x35760 
def law21_FenceDoes_J2 (z35699 : Int) (z35700 : Int) (v35690 : Int) (v35691 : List Int) (v35695 : Int) (v35696 : Int) : Option Bool :=
  (make_Mod z35700 260).bind fun u35704 => (make_Mod z35699 10).bind fun u35708 => law21_FenceDoes_L1 ([(z35700, z35699), (u35704, u35708)] : List (Int × Int)) 
def law21_FenceDoes_B3 (rec62975 : Int → Int → Int → Int → Option Bool) (z63070 : ByteArray) (z63072 : List ByteArray) (z63075 : Int) (z63076 : Int) (z63078 : Int) (z63080 : Int) (rec63053 : Option Bool) (x63090 : (Int × Int)) : Option Bool :=
  (fence_Next x63090.1 x63090.2 z63072 z63070).bind fun u63096 => (ref21_Next x63090.1 x63090.2 z63072 z63070).bind fun u63100 => if ((u63096.1 ≠ u63100.1) ∨ (u63096.2 ≠ u63100.2)) then (some false) else
 rec63053
def law21_FenceDoes_L3 (rec62975 : Int → Int → Int → Int → Option Bool) (z63070 : ByteArray) (z63072 : List ByteArray) (z63075 : Int) (z63076 : Int) (z63078 : Int) (z63080 : Int) : (List (Int × Int)) → Option Bool
  | [] => rec62975 z63075 z63076 z63078 z63080
  | x63090 :: xs => law21_FenceDoes_B3 rec62975 z63070 z63072 z63075 z63076 z63078 z63080 (law21_FenceDoes_L3 rec62975 z63070 z63072 z63075 z63076 z63078 z63080 xs) x63090 
def law21_FenceDoes_B4 (rec62536 : Int → Int → Int → Int → Option Bool) (z62988 : Int) (z62989 : Int) (z62995 : ByteArray) (rec62975 : Int → Int → Int → Int → Option Bool) (x63008 : (List ByteArray)) (v62979 : Int) (v62980 : Int) (v62981 : Int) (v62982 : Int) : Option Bool :=
  (make_Mod z62989 9).bind fun u63016 => law21_FenceDoes_L3 rec62975 z62995 x63008 v62979 v62980 v62981 v62982 ([(z62988, z62989), (v62981, u63016)] : List (Int × Int)) 
def law21_FenceDoes_L4 (rec62536 : Int → Int → Int → Int → Option Bool) (z62988 : Int) (z62989 : Int) (z62995 : ByteArray) : (List (List ByteArray)) → Int → Int → Int → Int → Option Bool
  | [], v62979, v62980, v62981, v62982 => rec62536 v62979 v62980 v62981 v62982
  | x63008 :: xs, v62979, v62980, v62981, v62982 => law21_FenceDoes_B4 rec62536 z62988 z62989 z62995 (law21_FenceDoes_L4 rec62536 z62988 z62989 z62995 xs) x63008 v62979 v62980 v62981 v62982
def law21_FenceDoes_J5 (rec62536 : Int → Int → Int → Int → Option Bool) (z62844 : Int) (z62845 : Int) (z62847 : List ByteArray) (z62848 : List ByteArray) (z62851 : ByteArray) (v62835 : Int) (v62836 : Int) (v62837 : Int) (v62838 : Int) : Option Bool :=
  law21_FenceDoes_L4 rec62536 z62844 z62845 z62851 ([z62847, z62848] : List (List ByteArray)) v62835 v62836 v62837 v62838
def law21_FenceDoes_B6 (kx62839 : Int → Int → Int → Int → Option Bool) (z63212 : ByteArray) (z63215 : Int) (z63216 : Int) (z63217 : List ByteArray) (z63218 : Int) (z63220 : Int) (rec63192 : Option Bool) (x63228 : Int) : Option Bool :=
  (fence_Range (z63216, z63217) z63212 x63228).bind fun u63233 => (ref21_Range (z63216, z63217) z63212 x63228).bind fun u63242 => (if ((u63233.2.2 ≠ u63242.2.2) ∨ (u63233.2.1 ≠ u63242.2.1)) then (some true) else (ref04_Same u63233.1 u63242.1).bind fun u63295 => some (!u63295)).bind fun u63285 => if (u63285 = true) then (some false) else
 rec63192
def law21_FenceDoes_L6 (kx62839 : Int → Int → Int → Int → Option Bool) (z63212 : ByteArray) (z63215 : Int) (z63216 : Int) (z63217 : List ByteArray) (z63218 : Int) (z63220 : Int) : (List Int) → Option Bool
  | [] => kx62839 z63215 z63216 z63218 z63220
  | x63228 :: xs => law21_FenceDoes_B6 kx62839 z63212 z63215 z63216 z63217 z63218 z63220 (law21_FenceDoes_L6 kx62839 z63212 z63215 z63216 z63217 z63218 z63220 xs) x63228 
def law21_FenceDoes_B7 (rec53577 : Int → (List Int) → Int → Int → Option Bool) (z62552 : Int) (z62553 : Int) (z62555 : List ByteArray) (z62556 : List ByteArray) (z62559 : List Int) (z62560 : List ByteArray) (rec62536 : Int → Int → Int → Int → Option Bool) (x62568 : ByteArray) (v62544 : Int) (v62545 : Int) (v62546 : Int) (v62547 : Int) : Option Bool :=
  (fence_Probe (v62545, z62560) x62568).bind fun u62573 => (ref21_Probe (v62545, z62560) x62568).bind fun u62582 => (if (((u62573.2.2.2 ≠ u62582.2.2.2) ∨ (u62573.2.1 ≠ u62582.2.1)) ∨ (u62573.2.2.1 ≠ u62582.2.2.1)) then (some true) else (ref04_Same u62573.1 u62582.1).bind fun u63301 => some (!u63301)).bind fun u62629 => if (u62629 = true) then (some false) else
(make_Mod z62552 6).bind fun u62637 => law21_FenceDoes_L6 (law21_FenceDoes_J5 rec62536 z62552 z62553 z62555 z62556 x62568) x62568 v62544 v62545 z62560 v62546 v62547 ([z62552, u62637] : List Int) 
def law21_FenceDoes_L7 (rec53577 : Int → (List Int) → Int → Int → Option Bool) (z62552 : Int) (z62553 : Int) (z62555 : List ByteArray) (z62556 : List ByteArray) (z62559 : List Int) (z62560 : List ByteArray) : (List ByteArray) → Int → Int → Int → Int → Option Bool
  | [], v62544, v62545, v62546, v62547 => rec53577 v62546 z62559 v62544 v62547
  | x62568 :: xs, v62544, v62545, v62546, v62547 => law21_FenceDoes_B7 rec53577 z62552 z62553 z62555 z62556 z62559 z62560 (law21_FenceDoes_L7 rec53577 z62552 z62553 z62555 z62556 z62559 z62560 xs) x62568 v62544 v62545 v62546 v62547
def law21_FenceDoes_J8 (rec53577 : Int → (List Int) → Int → Int → Option Bool) (z61768 : ByteArray) (z61769 : Int) (z61770 : Int) (z61772 : List ByteArray) (z61773 : List ByteArray) (z61775 : List ByteArray) (z61777 : List Int) (v61761 : Int) (v61762 : Int) (v61763 : Int) (v61764 : Int) : Option Bool :=
  (make_Word (z61777, v61763)).bind fun u61782 => law21_FenceDoes_L7 rec53577 z61769 z61770 z61772 z61773 u61782.2.1 z61775 ([z61768, u61782.1] : List ByteArray) u61782.2.2 v61761 v61762 v61764
def law21_FenceDoes_B9 (kx61765 : Int → Int → Int → Int → Option Bool) (z67363 : Int) (z67365 : Int) (z67368 : Int) (z67369 : Int) (z67371 : List (List ByteArray)) (rec67348 : Option Bool) (x67375 : (List ByteArray)) (i67348 : Nat) : Option Bool :=
  (lidx z67371 (i67348 : Int)).bind fun u67383 => (ref21_SameKeys x67375 u67383).bind fun u67390 => if ((!u67390) = true) then (some false) else
 rec67348
def law21_FenceDoes_L9 (kx61765 : Int → Int → Int → Int → Option Bool) (z67363 : Int) (z67365 : Int) (z67368 : Int) (z67369 : Int) (z67371 : List (List ByteArray)) : (List (List ByteArray)) → Nat → Option Bool
  | [], i67348 => kx61765 z67363 z67365 z67368 z67369
  | x67375 :: xs, i67348 => law21_FenceDoes_B9 kx61765 z67363 z67365 z67368 z67369 z67371 (law21_FenceDoes_L9 kx61765 z67363 z67365 z67368 z67369 z67371 xs (i67348 + 1)) x67375 i67348 
def law21_FenceDoes_B10 (kx35697 : Int → (List Int) → Int → Int → Option Bool) (z53594 : ByteArray) (z53595 : Int) (z53596 : Int) (z53598 : List ByteArray) (z53599 : List ByteArray) (rec53577 : Int → (List Int) → Int → Int → Option Bool) (x53605 : (Int × (List ByteArray))) (v53585 : Int) (v53586 : List Int) (v53590 : Int) (v53591 : Int) : Option Bool :=
  (fence_Levels x53605).bind fun u53614 => (ref21_Levels x53605).bind fun u53627 => (fence_Check x53605).bind fun u53640 => (ref21_Check x53605).bind fun u53644 => if (((u53640 ≠ u53644) ∨ (u53614.2 ≠ u53627.2)) ∨ ((u53614.1.length : Int) ≠ (u53627.1.length : Int))) then (some false) else
 law21_FenceDoes_L9 (law21_FenceDoes_J8 rec53577 z53594 z53595 z53596 z53598 z53599 x53605.2 v53586) x53605.1 v53585 v53590 v53591 u53627.1 u53614.1 0 
def law21_FenceDoes_L10 (kx35697 : Int → (List Int) → Int → Int → Option Bool) (z53594 : ByteArray) (z53595 : Int) (z53596 : Int) (z53598 : List ByteArray) (z53599 : List ByteArray) : (List (Int × (List ByteArray))) → Int → (List Int) → Int → Int → Option Bool
  | [], v53585, v53586, v53590, v53591 => kx35697 v53585 v53586 v53590 v53591
  | x53605 :: xs, v53585, v53586, v53590, v53591 => law21_FenceDoes_B10 kx35697 z53594 z53595 z53596 z53598 z53599 (law21_FenceDoes_L10 kx35697 z53594 z53595 z53596 z53598 z53599 xs) x53605 v53585 v53586 v53590 v53591
def law21_FenceDoes (x0 : (List Int)) (x1 : (Int × (List ByteArray))) (x2 : ByteArray) (x3 : Int) (x4 : Int) (x5 : Int) (x6 : (List ByteArray)) : Option Bool :=
  (law21_sane).bind fun u2 => if ((!u2) = true) then (some false) else
(make_Few x0).bind fun u9 => if (((((!u9) = true) ∨ (300 < (x1.2.length : Int))) ∨ (60 < (x6.length : Int))) ∨ (200 < (x2.size : Int))) then (some true) else
(make_New x0).bind fun u28 => (make_Fence u28).bind fun u36 => (lsub u36.1.2 0 (min (u36.1.2.length : Int) u36.1.1)).bind fun u51 => law21_FenceDoes_L10 (law21_FenceDoes_J2 x3 x5) x2 x3 x4 x6 u51 ([x1, u36.1] : List (Int × (List ByteArray))) u36.1.1 u36.2.1 u36.2.2 x1.1

def law21_FenceFinds_J1 (rec501 : Int → Int → Option Bool) (z749 : Int) (v741 : Int) (v742 : Int) (v743 : Int) : Option Bool :=
  if (v741 ≠ z749) then (some false) else
 rec501 v742 v743
def law21_FenceFinds_B2 (kx744 : Int → Int → Int → Option Bool) (z804 : Int) (z806 : ByteArray) (z810 : Int) (z811 : Int) (z815 : List (List ByteArray)) (rec796 : Int → Option Bool) (x817 : Int) (i796 : Nat) (v800 : Int) : Option Bool :=
  if (x817 ≠ v800) then (some false) else
(lidx z815 (w64 ((w64 (z804 - 1)) - (i796 : Int)))).bind fun u825 => (lsub u825 (w64 (v800 * z811)) (min (u825.length : Int) (w64 ((w64 (v800 + 1)) * z811)))).bind fun u833 => (fence_Next z811 v800 u833 z806).bind fun u839 => if (u839.2 ≠ 0) then (some false) else
 rec796 u839.1
def law21_FenceFinds_L2 (kx744 : Int → Int → Int → Option Bool) (z804 : Int) (z806 : ByteArray) (z810 : Int) (z811 : Int) (z815 : List (List ByteArray)) : (List Int) → Nat → Int → Option Bool
  | [], i796, v800 => kx744 v800 z810 z811
  | x817 :: xs, i796, v800 => law21_FenceFinds_B2 kx744 z804 z806 z810 z811 z815 (law21_FenceFinds_L2 kx744 z804 z806 z810 z811 z815 xs (i796 + 1)) x817 i796 v800
def law21_FenceFinds_J3 (rec501 : Int → Int → Option Bool) (z625 : Int) (z627 : ByteArray) (z628 : Int) (z629 : Bool) (z631 : List ByteArray) (z632 : List Int) (z634 : List (List ByteArray)) (v619 : Bool) (v620 : Int) (v621 : Int) : Option Bool :=
  (if (v619 ≠ z629) then (some true) else (lidx z631 z628).bind fun u848 => some (decide ((sLt z627 u848) ∧ (z628 ≠ 0)))).bind fun u646 => if (u646 = true) then (some false) else
 law21_FenceFinds_L2 (law21_FenceFinds_J1 rec501 z628) z625 z627 v620 v621 z634 z632 0 0
def law21_FenceFinds_B4 (kx622 : Bool → Int → Int → Option Bool) (z892 : ByteArray) (z893 : Int) (z898 : Int) (z899 : Int) (rec882 : Bool → Option Bool) (x904 : ByteArray) (i882 : Nat) (v886 : Bool) : Option Bool :=
  if ((¬ sLt z892 x904) ∧ (z893 < (i882 : Int))) then (some false) else
 rec882 (decide ((v886 = true) ∨ (x904 = z892)))
def law21_FenceFinds_L4 (kx622 : Bool → Int → Int → Option Bool) (z892 : ByteArray) (z893 : Int) (z898 : Int) (z899 : Int) : (List ByteArray) → Nat → Bool → Option Bool
  | [], i882, v886 => kx622 v886 z898 z899
  | x904 :: xs, i882, v886 => law21_FenceFinds_B4 kx622 z892 z893 z898 z899 (law21_FenceFinds_L4 kx622 z892 z893 z898 z899 xs (i882 + 1)) x904 i882 v886
def law21_FenceFinds_B5 (z509 : Int) (z512 : List ByteArray) (z514 : List (List ByteArray)) (rec501 : Int → Int → Option Bool) (x516 : ByteArray) (v505 : Int) (v506 : Int) : Option Bool :=
  (fence_Probe (v506, z512) x516).bind fun u521 => (if ((((u521.2.2.2 ≠ 0) ∨ ((u521.1.length : Int) ≠ z509)) ∨ (u521.2.1 < 0)) ∨ ((z512.length : Int) ≤ u521.2.1)) then (some true) else (lidx z512 u521.2.1).bind fun u922 => some (decide (u521.2.2.1 ≠ (decide (u922 = x516))))).bind fun u549 => if (u549 = true) then (some false) else
 law21_FenceFinds_L4 (law21_FenceFinds_J3 rec501 z509 x516 u521.2.1 u521.2.2.1 z512 u521.1 z514) x516 u521.2.1 v505 v506 z512 0 false
def law21_FenceFinds_L5 (z509 : Int) (z512 : List ByteArray) (z514 : List (List ByteArray)) : (List ByteArray) → Int → Int → Option Bool
  | [], v505, v506 => some true
  | x516 :: xs, v505, v506 => law21_FenceFinds_B5 z509 z512 z514 (law21_FenceFinds_L5 z509 z512 z514 xs) x516 v505 v506
def law21_FenceFinds (x0 : (List Int)) : Option Bool :=
  (law21_sane).bind fun u1 => if ((!u1) = true) then (some false) else
(make_Few x0).bind fun u8 => if ((!u8) = true) then (some true) else
(make_New x0).bind fun u15 => (make_Fence u15).bind fun u23 => (fence_Levels u23.1).bind fun u38 => (fence_Steps (u23.1.2.length : Int) u23.1.1).bind fun u51 => if (((u38.2 ≠ 0) ∨ (u51.2 ≠ 0)) ∨ ((u38.1.length : Int) ≠ u51.1)) then (some false) else
(make_Words u23.2 6).bind fun u66 => (lapp u66.1 u23.1.2).bind fun u86 => law21_FenceFinds_L5 u51.1 u23.1.2 u38.1 u86 u66.2.2 u23.1.1

end Go.Proofs.Ytdchjmophffphaa
