/-
  No cell of these rows narrows 'for every input' (looked for: loops, veiled, ifaces, maps, wideKeys, modest, calm, conditions, laid).
  DERIVED. THE GIVEN ROWS OF THIS SEAT. 5 by the template 'for every input the law returns true; each argument reads behind the call as it read before'; 0 by the template 'total and deterministic' (their statements: YtdchjmophffphaaTotals.lean).
  GIVEN WITH THE SEED: the statements are not yours to turn. If you find one false, say at which input.
  Laid BY PROGRAM, IN A SANDBOX (cutbox-rows.mjs): the forced cells as the released guide's own fill.sh prints them over the translation bc110fef8aa0dcf0… (all of the seat's roots in one cut). By AI agents, Wed Nov 11 2026. No macro, syntax, notation, axiom, sorry.
-/
import Derived.Test.YtdchjmophffphaaChecked
import GoSem.Claim
import GoSem.ClaimJoined
import GoSem.ClaimMapViews
import Derived.JoinedTies
import Derived.KernelRfl
namespace Go.Proofs.Ytdchjmophffphaa
/- THE CELL 'sum', in the pinned program and in every row, IS THE sha256 OF THE DUMP (.gsa) THAT YtdchjmophffphaaProg.lean LOADS. Nothing in Lean hashes anything: it is a label: what it is worth is what the hold of that sum in a sandbox is worth. -/
noncomputable def Try.pinned : Pinned := { name := "ytdchjmophffphaa", sum := "bc110fef8aa0dcf0d27a03d105e3bb9d8832d29ccef6f28a62f3cbce4b7a3267", checked := Try.checked }
namespace Rows
def none {H : Type} : Left H := { results := [], args := [] }

/-- 'privatefetchlaw21.FenceRanges': WHATEVER THE INPUT: true; the input reads as it did. -/
def fenceRangesSpec : ChangeSpec := { name := "fenceRanges", fn := fun _ => fun
  | [d1, d2] => { results := [.lit (.bool true)], args := [d1, d2] }
  | _ => none }
def fenceRangesRow : OpenClaim := { program := "ytdchjmophffphaa", sum := "bc110fef8aa0dcf0d27a03d105e3bb9d8832d29ccef6f28a62f3cbce4b7a3267", func := "privatefetch/privatefetchlaw21.FenceRanges", spec := "fenceRanges", unfollowed := true, recurses := true, apart := false }
def FenceRangesSaid : Prop := fenceRangesRow.holds Try.pinned (OpenSpec.ofChange fenceRangesSpec)

/-- ITS FALSE NEIGHBOUR: 'it returns false'. Refute it at one input. -/
def fenceRangesWrong : ChangeSpec := { name := "fenceRanges", fn := fun _ => fun
  | [d1, d2] => { results := [.lit (.bool false)], args := [d1, d2] }
  | _ => none }
def FenceRangesWrongFalsely : Prop := fenceRangesRow.holds Try.pinned (OpenSpec.ofChange fenceRangesWrong)

/-- 'privatefetchlaw21.FenceLevels': WHATEVER THE INPUT: true; the input reads as it did. -/
def fenceLevelsSpec : ChangeSpec := { name := "fenceLevels", fn := fun _ => fun
  | [d] => { results := [.lit (.bool true)], args := [d] }
  | _ => none }
def fenceLevelsRow : OpenClaim := { program := "ytdchjmophffphaa", sum := "bc110fef8aa0dcf0d27a03d105e3bb9d8832d29ccef6f28a62f3cbce4b7a3267", func := "privatefetch/privatefetchlaw21.FenceLevels", spec := "fenceLevels", unfollowed := true, recurses := true, apart := false }
def FenceLevelsSaid : Prop := fenceLevelsRow.holds Try.pinned (OpenSpec.ofChange fenceLevelsSpec)

/-- ITS FALSE NEIGHBOUR: 'it returns false'. Refute it at one input. -/
def fenceLevelsWrong : ChangeSpec := { name := "fenceLevels", fn := fun _ => fun
  | [d] => { results := [.lit (.bool false)], args := [d] }
  | _ => none }
def FenceLevelsWrongFalsely : Prop := fenceLevelsRow.holds Try.pinned (OpenSpec.ofChange fenceLevelsWrong)

/-- 'privatefetchlaw21.FenceSteps': WHATEVER THE INPUT: true; the input reads as it did. -/
def fenceStepsSpec : ChangeSpec := { name := "fenceSteps", fn := fun _ => fun
  | [d1, d2, d3, d4] => { results := [.lit (.bool true)], args := [d1, d2, d3, d4] }
  | _ => none }
def fenceStepsRow : OpenClaim := { program := "ytdchjmophffphaa", sum := "bc110fef8aa0dcf0d27a03d105e3bb9d8832d29ccef6f28a62f3cbce4b7a3267", func := "privatefetch/privatefetchlaw21.FenceSteps", spec := "fenceSteps", unfollowed := true, recurses := true, apart := false }
def FenceStepsSaid : Prop := fenceStepsRow.holds Try.pinned (OpenSpec.ofChange fenceStepsSpec)

/-- ITS FALSE NEIGHBOUR: 'it returns false'. Refute it at one input. -/
def fenceStepsWrong : ChangeSpec := { name := "fenceSteps", fn := fun _ => fun
  | [d1, d2, d3, d4] => { results := [.lit (.bool false)], args := [d1, d2, d3, d4] }
  | _ => none }
def FenceStepsWrongFalsely : Prop := fenceStepsRow.holds Try.pinned (OpenSpec.ofChange fenceStepsWrong)

/-- 'privatefetchlaw21.FenceDoes': WHATEVER THE INPUT: true; the input reads as it did. -/
def fenceDoesSpec : ChangeSpec := { name := "fenceDoes", fn := fun _ => fun
  | [d1, d2, d3, d4, d5, d6, d7] => { results := [.lit (.bool true)], args := [d1, d2, d3, d4, d5, d6, d7] }
  | _ => none }
def fenceDoesRow : OpenClaim := { program := "ytdchjmophffphaa", sum := "bc110fef8aa0dcf0d27a03d105e3bb9d8832d29ccef6f28a62f3cbce4b7a3267", func := "privatefetch/privatefetchlaw21.FenceDoes", spec := "fenceDoes", unfollowed := true, recurses := true, apart := false }
def FenceDoesSaid : Prop := fenceDoesRow.holds Try.pinned (OpenSpec.ofChange fenceDoesSpec)

/-- ITS FALSE NEIGHBOUR: 'it returns false'. Refute it at one input. -/
def fenceDoesWrong : ChangeSpec := { name := "fenceDoes", fn := fun _ => fun
  | [d1, d2, d3, d4, d5, d6, d7] => { results := [.lit (.bool false)], args := [d1, d2, d3, d4, d5, d6, d7] }
  | _ => none }
def FenceDoesWrongFalsely : Prop := fenceDoesRow.holds Try.pinned (OpenSpec.ofChange fenceDoesWrong)

/-- 'privatefetchlaw21.FenceFinds': WHATEVER THE INPUT: true; the input reads as it did. -/
def fenceFindsSpec : ChangeSpec := { name := "fenceFinds", fn := fun _ => fun
  | [d] => { results := [.lit (.bool true)], args := [d] }
  | _ => none }
def fenceFindsRow : OpenClaim := { program := "ytdchjmophffphaa", sum := "bc110fef8aa0dcf0d27a03d105e3bb9d8832d29ccef6f28a62f3cbce4b7a3267", func := "privatefetch/privatefetchlaw21.FenceFinds", spec := "fenceFinds", unfollowed := true, recurses := true, apart := false }
def FenceFindsSaid : Prop := fenceFindsRow.holds Try.pinned (OpenSpec.ofChange fenceFindsSpec)

/-- ITS FALSE NEIGHBOUR: 'it returns false'. Refute it at one input. -/
def fenceFindsWrong : ChangeSpec := { name := "fenceFinds", fn := fun _ => fun
  | [d] => { results := [.lit (.bool false)], args := [d] }
  | _ => none }
def FenceFindsWrongFalsely : Prop := fenceFindsRow.holds Try.pinned (OpenSpec.ofChange fenceFindsWrong)

/- THE SECOND FORM. 'bulk': how many values and letters a reading holds, each counted each time it is reached (what is shared counts as often as it is met; a slice's spare places count too). A statement '..UptoSaid' is the law's where the arguments, and the package variables that the reading takes, are together of bulk at most 1048576: NARROWER than '..Said'. Prove '..Said' where nothing that the law and all that it calls make is longer than what came in: it says more and counts as full. Else prove '..UptoSaid'. A law counts once. -/
mutual
def uptoBulk {H : Type} : DataW H → Nat
  | .lit (.string bytes) => bytes.length + 1
  | .lit _ => 1
  | .nil => 1
  | .ptr d => uptoBulk d + 1
  | .slice elems spare => uptoBulkAll elems + uptoBulkAll spare + 1
  | .agg parts => uptoBulkAll parts + 1
  | .iface _ d => uptoBulk d + 1
  | .map entries => uptoBulkEntries entries + 1
  | .held _ => 1
def uptoBulkAll {H : Type} : List (DataW H) → Nat
  | [] => 0
  | d :: r => uptoBulk d + uptoBulkAll r
def uptoBulkEntries {H : Type} : List (Lit × DataW H) → Nat
  | [] => 0
  | x :: r => uptoBulkEntry x + uptoBulkEntries r
def uptoBulkEntry {H : Type} : Lit × DataW H → Nat
  | (.string bytes, d) => bytes.length + uptoBulk d + 1
  | (_, d) => uptoBulk d + 1
 end
def uptoSmall : (H : Type) → List (DataW H) → Bool := fun _ ds => decide (uptoBulkAll ds ≤ 1048576)
def OpenSpec.upto (s : _root_.Go.ChangeSpec) : _root_.Go.OpenSpec := { _root_.Go.OpenSpec.ofChange s with cond := some uptoSmall }

/-- 'privatefetchlaw21.FenceRanges', WHERE WHAT IT READS IS OF BULK AT MOST 1048576: true; the input reads as it did. -/
def fenceRangesUptoRow : OpenClaim := { program := "ytdchjmophffphaa", sum := "bc110fef8aa0dcf0d27a03d105e3bb9d8832d29ccef6f28a62f3cbce4b7a3267", func := "privatefetch/privatefetchlaw21.FenceRanges", spec := "fenceRanges", unfollowed := true, recurses := true, apart := false, narrowed := true }
def FenceRangesUptoSaid : Prop := fenceRangesUptoRow.holds Try.pinned (OpenSpec.upto fenceRangesSpec)

/-- 'privatefetchlaw21.FenceLevels', WHERE WHAT IT READS IS OF BULK AT MOST 1048576: true; the input reads as it did. -/
def fenceLevelsUptoRow : OpenClaim := { program := "ytdchjmophffphaa", sum := "bc110fef8aa0dcf0d27a03d105e3bb9d8832d29ccef6f28a62f3cbce4b7a3267", func := "privatefetch/privatefetchlaw21.FenceLevels", spec := "fenceLevels", unfollowed := true, recurses := true, apart := false, narrowed := true }
def FenceLevelsUptoSaid : Prop := fenceLevelsUptoRow.holds Try.pinned (OpenSpec.upto fenceLevelsSpec)

/-- 'privatefetchlaw21.FenceSteps', WHERE WHAT IT READS IS OF BULK AT MOST 1048576: true; the input reads as it did. -/
def fenceStepsUptoRow : OpenClaim := { program := "ytdchjmophffphaa", sum := "bc110fef8aa0dcf0d27a03d105e3bb9d8832d29ccef6f28a62f3cbce4b7a3267", func := "privatefetch/privatefetchlaw21.FenceSteps", spec := "fenceSteps", unfollowed := true, recurses := true, apart := false, narrowed := true }
def FenceStepsUptoSaid : Prop := fenceStepsUptoRow.holds Try.pinned (OpenSpec.upto fenceStepsSpec)

/-- 'privatefetchlaw21.FenceDoes', WHERE WHAT IT READS IS OF BULK AT MOST 1048576: true; the input reads as it did. -/
def fenceDoesUptoRow : OpenClaim := { program := "ytdchjmophffphaa", sum := "bc110fef8aa0dcf0d27a03d105e3bb9d8832d29ccef6f28a62f3cbce4b7a3267", func := "privatefetch/privatefetchlaw21.FenceDoes", spec := "fenceDoes", unfollowed := true, recurses := true, apart := false, narrowed := true }
def FenceDoesUptoSaid : Prop := fenceDoesUptoRow.holds Try.pinned (OpenSpec.upto fenceDoesSpec)

/-- 'privatefetchlaw21.FenceFinds', WHERE WHAT IT READS IS OF BULK AT MOST 1048576: true; the input reads as it did. -/
def fenceFindsUptoRow : OpenClaim := { program := "ytdchjmophffphaa", sum := "bc110fef8aa0dcf0d27a03d105e3bb9d8832d29ccef6f28a62f3cbce4b7a3267", func := "privatefetch/privatefetchlaw21.FenceFinds", spec := "fenceFinds", unfollowed := true, recurses := true, apart := false, narrowed := true }
def FenceFindsUptoSaid : Prop := fenceFindsUptoRow.holds Try.pinned (OpenSpec.upto fenceFindsSpec)

end Rows
end Go.Proofs.Ytdchjmophffphaa
