/-
  No cell of these rows narrows 'for every input' (looked for: loops, veiled, ifaces, maps, wideKeys, modest, calm, conditions, laid).
  DERIVED. THE GIVEN ROWS OF THIS SEAT. 5 by the template 'for every input the law returns true; each argument reads behind the call as it read before'; 0 by the template 'total and deterministic' (their statements: YtmjidoadjinhgaaTotals.lean).
  GIVEN WITH THE SEED: the statements are not yours to turn. If you find one false, say at which input.
  Laid BY PROGRAM, IN A SANDBOX (cutbox-rows.mjs): the forced cells as the released guide's own fill.sh prints them over the translation 0d51867c1a6568ee… (all of the seat's roots in one cut). By AI agents, Wed Nov 11 2026. No macro, syntax, notation, axiom, sorry.
-/
import Derived.Test.YtmjidoadjinhgaaChecked
import GoSem.Claim
import GoSem.ClaimJoined
import GoSem.ClaimMapViews
import Derived.JoinedTies
import Derived.KernelRfl
namespace Go.Proofs.Ytmjidoadjinhgaa
/- THE CELL 'sum', in the pinned program and in every row, IS THE sha256 OF THE DUMP (.gsa) THAT YtmjidoadjinhgaaProg.lean LOADS. Nothing in Lean hashes anything: it is a label: what it is worth is what the hold of that sum in a sandbox is worth. -/
noncomputable def Try.pinned : Pinned := { name := "ytmjidoadjinhgaa", sum := "0d51867c1a6568ee00fb636082cb7726dd72bfd9c478fffdaad78e72b19ee1c5", checked := Try.checked }
namespace Rows
def none {H : Type} : Left H := { results := [], args := [] }

/-- 'privatefetchlaw29.PlannerBest': WHATEVER THE INPUT: true; the input reads as it did. -/
def plannerBestSpec : ChangeSpec := { name := "plannerBest", fn := fun _ => fun
  | [d] => { results := [.lit (.bool true)], args := [d] }
  | _ => none }
def plannerBestRow : OpenClaim := { program := "ytmjidoadjinhgaa", sum := "0d51867c1a6568ee00fb636082cb7726dd72bfd9c478fffdaad78e72b19ee1c5", func := "privatefetch/privatefetchlaw29.PlannerBest", spec := "plannerBest", unfollowed := true, recurses := true, apart := false }
def PlannerBestSaid : Prop := plannerBestRow.holds Try.pinned (OpenSpec.ofChange plannerBestSpec)

/-- ITS FALSE NEIGHBOUR: 'it returns false'. Refute it at one input. -/
def plannerBestWrong : ChangeSpec := { name := "plannerBest", fn := fun _ => fun
  | [d] => { results := [.lit (.bool false)], args := [d] }
  | _ => none }
def PlannerBestWrongFalsely : Prop := plannerBestRow.holds Try.pinned (OpenSpec.ofChange plannerBestWrong)

/-- 'privatefetchlaw29.PlannerLess': WHATEVER THE INPUT: true; the input reads as it did. -/
def plannerLessSpec : ChangeSpec := { name := "plannerLess", fn := fun _ => fun
  | [d] => { results := [.lit (.bool true)], args := [d] }
  | _ => none }
def plannerLessRow : OpenClaim := { program := "ytmjidoadjinhgaa", sum := "0d51867c1a6568ee00fb636082cb7726dd72bfd9c478fffdaad78e72b19ee1c5", func := "privatefetch/privatefetchlaw29.PlannerLess", spec := "plannerLess", unfollowed := true, recurses := true, apart := false }
def PlannerLessSaid : Prop := plannerLessRow.holds Try.pinned (OpenSpec.ofChange plannerLessSpec)

/-- ITS FALSE NEIGHBOUR: 'it returns false'. Refute it at one input. -/
def plannerLessWrong : ChangeSpec := { name := "plannerLess", fn := fun _ => fun
  | [d] => { results := [.lit (.bool false)], args := [d] }
  | _ => none }
def PlannerLessWrongFalsely : Prop := plannerLessRow.holds Try.pinned (OpenSpec.ofChange plannerLessWrong)

/-- 'privatefetchlaw29.PlannerSure': WHATEVER THE INPUT: true; the input reads as it did. -/
def plannerSureSpec : ChangeSpec := { name := "plannerSure", fn := fun _ => fun
  | [d] => { results := [.lit (.bool true)], args := [d] }
  | _ => none }
def plannerSureRow : OpenClaim := { program := "ytmjidoadjinhgaa", sum := "0d51867c1a6568ee00fb636082cb7726dd72bfd9c478fffdaad78e72b19ee1c5", func := "privatefetch/privatefetchlaw29.PlannerSure", spec := "plannerSure", unfollowed := true, recurses := true, apart := false }
def PlannerSureSaid : Prop := plannerSureRow.holds Try.pinned (OpenSpec.ofChange plannerSureSpec)

/-- ITS FALSE NEIGHBOUR: 'it returns false'. Refute it at one input. -/
def plannerSureWrong : ChangeSpec := { name := "plannerSure", fn := fun _ => fun
  | [d] => { results := [.lit (.bool false)], args := [d] }
  | _ => none }
def PlannerSureWrongFalsely : Prop := plannerSureRow.holds Try.pinned (OpenSpec.ofChange plannerSureWrong)

/-- 'privatefetchlaw29.PlannerScales': WHATEVER THE INPUT: true; the input reads as it did. -/
def plannerScalesSpec : ChangeSpec := { name := "plannerScales", fn := fun _ => fun
  | [d1, d2] => { results := [.lit (.bool true)], args := [d1, d2] }
  | _ => none }
def plannerScalesRow : OpenClaim := { program := "ytmjidoadjinhgaa", sum := "0d51867c1a6568ee00fb636082cb7726dd72bfd9c478fffdaad78e72b19ee1c5", func := "privatefetch/privatefetchlaw29.PlannerScales", spec := "plannerScales", unfollowed := true, recurses := true, apart := false }
def PlannerScalesSaid : Prop := plannerScalesRow.holds Try.pinned (OpenSpec.ofChange plannerScalesSpec)

/-- ITS FALSE NEIGHBOUR: 'it returns false'. Refute it at one input. -/
def plannerScalesWrong : ChangeSpec := { name := "plannerScales", fn := fun _ => fun
  | [d1, d2] => { results := [.lit (.bool false)], args := [d1, d2] }
  | _ => none }
def PlannerScalesWrongFalsely : Prop := plannerScalesRow.holds Try.pinned (OpenSpec.ofChange plannerScalesWrong)

/-- 'privatefetchlaw29.PlannerSteps': WHATEVER THE INPUT: true; the input reads as it did. -/
def plannerStepsSpec : ChangeSpec := { name := "plannerSteps", fn := fun _ => fun
  | [d1, d2, d3, d4, d5] => { results := [.lit (.bool true)], args := [d1, d2, d3, d4, d5] }
  | _ => none }
def plannerStepsRow : OpenClaim := { program := "ytmjidoadjinhgaa", sum := "0d51867c1a6568ee00fb636082cb7726dd72bfd9c478fffdaad78e72b19ee1c5", func := "privatefetch/privatefetchlaw29.PlannerSteps", spec := "plannerSteps", unfollowed := true, recurses := true, apart := false }
def PlannerStepsSaid : Prop := plannerStepsRow.holds Try.pinned (OpenSpec.ofChange plannerStepsSpec)

/-- ITS FALSE NEIGHBOUR: 'it returns false'. Refute it at one input. -/
def plannerStepsWrong : ChangeSpec := { name := "plannerSteps", fn := fun _ => fun
  | [d1, d2, d3, d4, d5] => { results := [.lit (.bool false)], args := [d1, d2, d3, d4, d5] }
  | _ => none }
def PlannerStepsWrongFalsely : Prop := plannerStepsRow.holds Try.pinned (OpenSpec.ofChange plannerStepsWrong)

/- THE SECOND FORM. 'bulk': how many values and letters a reading holds, each counted each time it is reached (what is shared counts as often as it is met; a slice's spare places count too). A statement '..UptoSaid' is the law's where the arguments, and the package variables that the reading takes, are together of bulk at most 1048576: NARROWER than '..Said'. Prove '..Said' where nothing that the law and all that it calls make is longer than what came in: it says more and counts as full. Else prove '..UptoSaid'. A law counts once. -/
mutual
def uptoBulk {H : Type} : DataW H → Nat
  | .lit (.string bytes) => bytes.length + 1
  | .lit _ => 1
  | .nil => 1
  | .ptr d => uptoBulk d + 1
  | .slice elems spare => uptoBulkAll elems + uptoBulkAll spare + 1
  | .agg parts => uptoBulkAll parts + 1
  | .iface _ d => uptoBulk d + 1
  | .map entries => uptoBulkEntries entries + 1
  | .held _ => 1
def uptoBulkAll {H : Type} : List (DataW H) → Nat
  | [] => 0
  | d :: r => uptoBulk d + uptoBulkAll r
def uptoBulkEntries {H : Type} : List (Lit × DataW H) → Nat
  | [] => 0
  | x :: r => uptoBulkEntry x + uptoBulkEntries r
def uptoBulkEntry {H : Type} : Lit × DataW H → Nat
  | (.string bytes, d) => bytes.length + uptoBulk d + 1
  | (_, d) => uptoBulk d + 1
 end
def uptoSmall : (H : Type) → List (DataW H) → Bool := fun _ ds => decide (uptoBulkAll ds ≤ 1048576)
def OpenSpec.upto (s : _root_.Go.ChangeSpec) : _root_.Go.OpenSpec := { _root_.Go.OpenSpec.ofChange s with cond := some uptoSmall }

/-- 'privatefetchlaw29.PlannerBest', WHERE WHAT IT READS IS OF BULK AT MOST 1048576: true; the input reads as it did. -/
def plannerBestUptoRow : OpenClaim := { program := "ytmjidoadjinhgaa", sum := "0d51867c1a6568ee00fb636082cb7726dd72bfd9c478fffdaad78e72b19ee1c5", func := "privatefetch/privatefetchlaw29.PlannerBest", spec := "plannerBest", unfollowed := true, recurses := true, apart := false, narrowed := true }
def PlannerBestUptoSaid : Prop := plannerBestUptoRow.holds Try.pinned (OpenSpec.upto plannerBestSpec)

/-- 'privatefetchlaw29.PlannerLess', WHERE WHAT IT READS IS OF BULK AT MOST 1048576: true; the input reads as it did. -/
def plannerLessUptoRow : OpenClaim := { program := "ytmjidoadjinhgaa", sum := "0d51867c1a6568ee00fb636082cb7726dd72bfd9c478fffdaad78e72b19ee1c5", func := "privatefetch/privatefetchlaw29.PlannerLess", spec := "plannerLess", unfollowed := true, recurses := true, apart := false, narrowed := true }
def PlannerLessUptoSaid : Prop := plannerLessUptoRow.holds Try.pinned (OpenSpec.upto plannerLessSpec)

/-- 'privatefetchlaw29.PlannerSure', WHERE WHAT IT READS IS OF BULK AT MOST 1048576: true; the input reads as it did. -/
def plannerSureUptoRow : OpenClaim := { program := "ytmjidoadjinhgaa", sum := "0d51867c1a6568ee00fb636082cb7726dd72bfd9c478fffdaad78e72b19ee1c5", func := "privatefetch/privatefetchlaw29.PlannerSure", spec := "plannerSure", unfollowed := true, recurses := true, apart := false, narrowed := true }
def PlannerSureUptoSaid : Prop := plannerSureUptoRow.holds Try.pinned (OpenSpec.upto plannerSureSpec)

/-- 'privatefetchlaw29.PlannerScales', WHERE WHAT IT READS IS OF BULK AT MOST 1048576: true; the input reads as it did. -/
def plannerScalesUptoRow : OpenClaim := { program := "ytmjidoadjinhgaa", sum := "0d51867c1a6568ee00fb636082cb7726dd72bfd9c478fffdaad78e72b19ee1c5", func := "privatefetch/privatefetchlaw29.PlannerScales", spec := "plannerScales", unfollowed := true, recurses := true, apart := false, narrowed := true }
def PlannerScalesUptoSaid : Prop := plannerScalesUptoRow.holds Try.pinned (OpenSpec.upto plannerScalesSpec)

/-- 'privatefetchlaw29.PlannerSteps', WHERE WHAT IT READS IS OF BULK AT MOST 1048576: true; the input reads as it did. -/
def plannerStepsUptoRow : OpenClaim := { program := "ytmjidoadjinhgaa", sum := "0d51867c1a6568ee00fb636082cb7726dd72bfd9c478fffdaad78e72b19ee1c5", func := "privatefetch/privatefetchlaw29.PlannerSteps", spec := "plannerSteps", unfollowed := true, recurses := true, apart := false, narrowed := true }
def PlannerStepsUptoSaid : Prop := plannerStepsUptoRow.holds Try.pinned (OpenSpec.upto plannerStepsSpec)

end Rows
end Go.Proofs.Ytmjidoadjinhgaa
