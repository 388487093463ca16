/-
  No cell of these rows narrows 'for every input' (looked for: loops, veiled, ifaces, maps, wideKeys, modest, calm, conditions, laid).
  DERIVED. THE GIVEN ROWS OF THIS SEAT. 4 by the template 'for every input the law returns true; each argument reads behind the call as it read before'; 0 by the template 'total and deterministic' (their statements: YtcdmckcakldhmaaTotals.lean).
  GIVEN WITH THE SEED: the statements are not yours to turn. If you find one false, say at which input.
  Laid BY PROGRAM, IN A SANDBOX (cutbox-rows.mjs): the forced cells as the released guide's own fill.sh prints them over the translation a6cf0eb6e5fac074… (all of the seat's roots in one cut). By AI agents, Wed Nov 11 2026. No macro, syntax, notation, axiom, sorry.
-/
import Derived.Test.YtcdmckcakldhmaaChecked
import GoSem.Claim
import GoSem.ClaimJoined
import GoSem.ClaimMapViews
import Derived.JoinedTies
import Derived.KernelRfl
namespace Go.Proofs.Ytcdmckcakldhmaa
/- THE CELL 'sum', in the pinned program and in every row, IS THE sha256 OF THE DUMP (.gsa) THAT YtcdmckcakldhmaaProg.lean LOADS. Nothing in Lean hashes anything: it is a label: what it is worth is what the hold of that sum in a sandbox is worth. -/
noncomputable def Try.pinned : Pinned := { name := "ytcdmckcakldhmaa", sum := "a6cf0eb6e5fac074260e94fdd05df923698a8f8711194321c35832eb1de37a58", checked := Try.checked }
namespace Rows
def none {H : Type} : Left H := { results := [], args := [] }

/-- 'privatefetchlaw28.CostDirect': WHATEVER THE INPUT: true; the input reads as it did. -/
def costDirectSpec : ChangeSpec := { name := "costDirect", fn := fun _ => fun
  | [d1, d2, d3] => { results := [.lit (.bool true)], args := [d1, d2, d3] }
  | _ => none }
def costDirectRow : OpenClaim := { program := "ytcdmckcakldhmaa", sum := "a6cf0eb6e5fac074260e94fdd05df923698a8f8711194321c35832eb1de37a58", func := "privatefetch/privatefetchlaw28.CostDirect", spec := "costDirect", unfollowed := true, recurses := true, apart := false }
def CostDirectSaid : Prop := costDirectRow.holds Try.pinned (OpenSpec.ofChange costDirectSpec)

/-- ITS FALSE NEIGHBOUR: 'it returns false'. Refute it at one input. -/
def costDirectWrong : ChangeSpec := { name := "costDirect", fn := fun _ => fun
  | [d1, d2, d3] => { results := [.lit (.bool false)], args := [d1, d2, d3] }
  | _ => none }
def CostDirectWrongFalsely : Prop := costDirectRow.holds Try.pinned (OpenSpec.ofChange costDirectWrong)

/-- 'privatefetchlaw28.CostSteps': WHATEVER THE INPUT: true; the input reads as it did. -/
def costStepsSpec : ChangeSpec := { name := "costSteps", fn := fun _ => fun
  | [d1, d2, d3, d4, d5, d6, d7, d8] => { results := [.lit (.bool true)], args := [d1, d2, d3, d4, d5, d6, d7, d8] }
  | _ => none }
def costStepsRow : OpenClaim := { program := "ytcdmckcakldhmaa", sum := "a6cf0eb6e5fac074260e94fdd05df923698a8f8711194321c35832eb1de37a58", func := "privatefetch/privatefetchlaw28.CostSteps", spec := "costSteps", unfollowed := true, recurses := true, apart := false }
def CostStepsSaid : Prop := costStepsRow.holds Try.pinned (OpenSpec.ofChange costStepsSpec)

/-- ITS FALSE NEIGHBOUR: 'it returns false'. Refute it at one input. -/
def costStepsWrong : ChangeSpec := { name := "costSteps", fn := fun _ => fun
  | [d1, d2, d3, d4, d5, d6, d7, d8] => { results := [.lit (.bool false)], args := [d1, d2, d3, d4, d5, d6, d7, d8] }
  | _ => none }
def CostStepsWrongFalsely : Prop := costStepsRow.holds Try.pinned (OpenSpec.ofChange costStepsWrong)

/-- 'privatefetchlaw28.CostGrows': WHATEVER THE INPUT: true; the input reads as it did. -/
def costGrowsSpec : ChangeSpec := { name := "costGrows", fn := fun _ => fun
  | [d1, d2, d3] => { results := [.lit (.bool true)], args := [d1, d2, d3] }
  | _ => none }
def costGrowsRow : OpenClaim := { program := "ytcdmckcakldhmaa", sum := "a6cf0eb6e5fac074260e94fdd05df923698a8f8711194321c35832eb1de37a58", func := "privatefetch/privatefetchlaw28.CostGrows", spec := "costGrows", unfollowed := true, recurses := true, apart := false }
def CostGrowsSaid : Prop := costGrowsRow.holds Try.pinned (OpenSpec.ofChange costGrowsSpec)

/-- ITS FALSE NEIGHBOUR: 'it returns false'. Refute it at one input. -/
def costGrowsWrong : ChangeSpec := { name := "costGrows", fn := fun _ => fun
  | [d1, d2, d3] => { results := [.lit (.bool false)], args := [d1, d2, d3] }
  | _ => none }
def CostGrowsWrongFalsely : Prop := costGrowsRow.holds Try.pinned (OpenSpec.ofChange costGrowsWrong)

/-- 'privatefetchlaw28.CostWeighs': WHATEVER THE INPUT: true; the input reads as it did. -/
def costWeighsSpec : ChangeSpec := { name := "costWeighs", fn := fun _ => fun
  | [d1, d2, d3, d4] => { results := [.lit (.bool true)], args := [d1, d2, d3, d4] }
  | _ => none }
def costWeighsRow : OpenClaim := { program := "ytcdmckcakldhmaa", sum := "a6cf0eb6e5fac074260e94fdd05df923698a8f8711194321c35832eb1de37a58", func := "privatefetch/privatefetchlaw28.CostWeighs", spec := "costWeighs", unfollowed := true, recurses := true, apart := false }
def CostWeighsSaid : Prop := costWeighsRow.holds Try.pinned (OpenSpec.ofChange costWeighsSpec)

/-- ITS FALSE NEIGHBOUR: 'it returns false'. Refute it at one input. -/
def costWeighsWrong : ChangeSpec := { name := "costWeighs", fn := fun _ => fun
  | [d1, d2, d3, d4] => { results := [.lit (.bool false)], args := [d1, d2, d3, d4] }
  | _ => none }
def CostWeighsWrongFalsely : Prop := costWeighsRow.holds Try.pinned (OpenSpec.ofChange costWeighsWrong)

/- THE SECOND FORM. 'bulk': how many values and letters a reading holds, each counted each time it is reached (what is shared counts as often as it is met; a slice's spare places count too). A statement '..UptoSaid' is the law's where the arguments, and the package variables that the reading takes, are together of bulk at most 1048576: NARROWER than '..Said'. Prove '..Said' where nothing that the law and all that it calls make is longer than what came in: it says more and counts as full. Else prove '..UptoSaid'. A law counts once. -/
mutual
def uptoBulk {H : Type} : DataW H → Nat
  | .lit (.string bytes) => bytes.length + 1
  | .lit _ => 1
  | .nil => 1
  | .ptr d => uptoBulk d + 1
  | .slice elems spare => uptoBulkAll elems + uptoBulkAll spare + 1
  | .agg parts => uptoBulkAll parts + 1
  | .iface _ d => uptoBulk d + 1
  | .map entries => uptoBulkEntries entries + 1
  | .held _ => 1
def uptoBulkAll {H : Type} : List (DataW H) → Nat
  | [] => 0
  | d :: r => uptoBulk d + uptoBulkAll r
def uptoBulkEntries {H : Type} : List (Lit × DataW H) → Nat
  | [] => 0
  | x :: r => uptoBulkEntry x + uptoBulkEntries r
def uptoBulkEntry {H : Type} : Lit × DataW H → Nat
  | (.string bytes, d) => bytes.length + uptoBulk d + 1
  | (_, d) => uptoBulk d + 1
 end
def uptoSmall : (H : Type) → List (DataW H) → Bool := fun _ ds => decide (uptoBulkAll ds ≤ 1048576)
def OpenSpec.upto (s : _root_.Go.ChangeSpec) : _root_.Go.OpenSpec := { _root_.Go.OpenSpec.ofChange s with cond := some uptoSmall }

/-- 'privatefetchlaw28.CostDirect', WHERE WHAT IT READS IS OF BULK AT MOST 1048576: true; the input reads as it did. -/
def costDirectUptoRow : OpenClaim := { program := "ytcdmckcakldhmaa", sum := "a6cf0eb6e5fac074260e94fdd05df923698a8f8711194321c35832eb1de37a58", func := "privatefetch/privatefetchlaw28.CostDirect", spec := "costDirect", unfollowed := true, recurses := true, apart := false, narrowed := true }
def CostDirectUptoSaid : Prop := costDirectUptoRow.holds Try.pinned (OpenSpec.upto costDirectSpec)

/-- 'privatefetchlaw28.CostSteps', WHERE WHAT IT READS IS OF BULK AT MOST 1048576: true; the input reads as it did. -/
def costStepsUptoRow : OpenClaim := { program := "ytcdmckcakldhmaa", sum := "a6cf0eb6e5fac074260e94fdd05df923698a8f8711194321c35832eb1de37a58", func := "privatefetch/privatefetchlaw28.CostSteps", spec := "costSteps", unfollowed := true, recurses := true, apart := false, narrowed := true }
def CostStepsUptoSaid : Prop := costStepsUptoRow.holds Try.pinned (OpenSpec.upto costStepsSpec)

/-- 'privatefetchlaw28.CostGrows', WHERE WHAT IT READS IS OF BULK AT MOST 1048576: true; the input reads as it did. -/
def costGrowsUptoRow : OpenClaim := { program := "ytcdmckcakldhmaa", sum := "a6cf0eb6e5fac074260e94fdd05df923698a8f8711194321c35832eb1de37a58", func := "privatefetch/privatefetchlaw28.CostGrows", spec := "costGrows", unfollowed := true, recurses := true, apart := false, narrowed := true }
def CostGrowsUptoSaid : Prop := costGrowsUptoRow.holds Try.pinned (OpenSpec.upto costGrowsSpec)

/-- 'privatefetchlaw28.CostWeighs', WHERE WHAT IT READS IS OF BULK AT MOST 1048576: true; the input reads as it did. -/
def costWeighsUptoRow : OpenClaim := { program := "ytcdmckcakldhmaa", sum := "a6cf0eb6e5fac074260e94fdd05df923698a8f8711194321c35832eb1de37a58", func := "privatefetch/privatefetchlaw28.CostWeighs", spec := "costWeighs", unfollowed := true, recurses := true, apart := false, narrowed := true }
def CostWeighsUptoSaid : Prop := costWeighsUptoRow.holds Try.pinned (OpenSpec.upto costWeighsSpec)

end Rows
end Go.Proofs.Ytcdmckcakldhmaa
