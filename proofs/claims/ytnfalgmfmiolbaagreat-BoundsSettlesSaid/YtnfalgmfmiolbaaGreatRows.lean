/-
  No cell of these rows narrows 'for every input' (looked for: loops, veiled, ifaces, maps, wideKeys, modest, calm, conditions, laid).
  DERIVED. THE GIVEN ROWS OF THIS SEAT. 2 by the template 'for every input the law returns true; each argument reads behind the call as it read before'; 0 by the template 'total and deterministic' (their statements: YtnfalgmfmiolbaaGreatTotals.lean).
  GIVEN WITH THE SEED: the statements are not yours to turn. If you find one false, say at which input.
  Laid BY PROGRAM, IN A SANDBOX (cutbox-rows.mjs): the forced cells as the released guide's own fill.sh prints them over the translation a734e6b9dc45c5f7… (all of the seat's roots in one cut). By AI agents, Wed Nov 11 2026. No macro, syntax, notation, axiom, sorry.
-/
import Derived.Test.YtnfalgmfmiolbaaGreatChecked
import GoSem.Claim
import GoSem.ClaimJoined
import GoSem.ClaimMapViews
import Derived.JoinedTies
import Derived.KernelRfl
namespace Go.Proofs.YtnfalgmfmiolbaaGreat
/- THE CELL 'sum', in the pinned program and in every row, IS THE sha256 OF THE DUMP (.gsa) THAT YtnfalgmfmiolbaaGreatProg.lean LOADS. Nothing in Lean hashes anything: it is a label: what it is worth is what the hold of that sum in a sandbox is worth. -/
noncomputable def Tryz.pinned : Pinned := { name := "ytnfalgmfmiolbaagreat", sum := "a734e6b9dc45c5f75d9ee5b1b47a51e058c082f9a473285ca824c66d6b8f9b50", checked := Tryz.checked }
namespace Rows
def none {H : Type} : Left H := { results := [], args := [] }

/-- 'privatefetchlaw43.BoundsSettles': WHATEVER THE INPUT: true; the input reads as it did. -/
def boundsSettlesSpec : ChangeSpec := { name := "boundsSettles", fn := fun _ => fun
  | [d] => { results := [.lit (.bool true)], args := [d] }
  | _ => none }
def boundsSettlesRow : OpenClaim := { program := "ytnfalgmfmiolbaagreat", sum := "a734e6b9dc45c5f75d9ee5b1b47a51e058c082f9a473285ca824c66d6b8f9b50", func := "privatefetch/privatefetchlaw43.BoundsSettles", spec := "boundsSettles", unfollowed := true, recurses := true, apart := false }
def BoundsSettlesSaid : Prop := boundsSettlesRow.holds Tryz.pinned (OpenSpec.ofChange boundsSettlesSpec)

/-- ITS FALSE NEIGHBOUR: 'it returns false'. Refute it at one input. -/
def boundsSettlesWrong : ChangeSpec := { name := "boundsSettles", fn := fun _ => fun
  | [d] => { results := [.lit (.bool false)], args := [d] }
  | _ => none }
def BoundsSettlesWrongFalsely : Prop := boundsSettlesRow.holds Tryz.pinned (OpenSpec.ofChange boundsSettlesWrong)

/-- 'privatefetchlaw43.BoundsSteps': WHATEVER THE INPUT: true; the input reads as it did. -/
def boundsStepsSpec : ChangeSpec := { name := "boundsSteps", fn := fun _ => fun
  | [d1, d2, d3, d4, d5, d6, d7, d8, d9] => { results := [.lit (.bool true)], args := [d1, d2, d3, d4, d5, d6, d7, d8, d9] }
  | _ => none }
def boundsStepsRow : OpenClaim := { program := "ytnfalgmfmiolbaagreat", sum := "a734e6b9dc45c5f75d9ee5b1b47a51e058c082f9a473285ca824c66d6b8f9b50", func := "privatefetch/privatefetchlaw43.BoundsSteps", spec := "boundsSteps", unfollowed := true, recurses := true, apart := false }
def BoundsStepsSaid : Prop := boundsStepsRow.holds Tryz.pinned (OpenSpec.ofChange boundsStepsSpec)

/-- ITS FALSE NEIGHBOUR: 'it returns false'. Refute it at one input. -/
def boundsStepsWrong : ChangeSpec := { name := "boundsSteps", fn := fun _ => fun
  | [d1, d2, d3, d4, d5, d6, d7, d8, d9] => { results := [.lit (.bool false)], args := [d1, d2, d3, d4, d5, d6, d7, d8, d9] }
  | _ => none }
def BoundsStepsWrongFalsely : Prop := boundsStepsRow.holds Tryz.pinned (OpenSpec.ofChange boundsStepsWrong)

/- THE SECOND FORM. 'bulk': how many values and letters a reading holds, each counted each time it is reached (what is shared counts as often as it is met; a slice's spare places count too). A statement '..UptoSaid' is the law's where the arguments, and the package variables that the reading takes, are together of bulk at most 1048576: NARROWER than '..Said'. Prove '..Said' where nothing that the law and all that it calls make is longer than what came in: it says more and counts as full. Else prove '..UptoSaid'. A law counts once. -/
mutual
def uptoBulk {H : Type} : DataW H → Nat
  | .lit (.string bytes) => bytes.length + 1
  | .lit _ => 1
  | .nil => 1
  | .ptr d => uptoBulk d + 1
  | .slice elems spare => uptoBulkAll elems + uptoBulkAll spare + 1
  | .agg parts => uptoBulkAll parts + 1
  | .iface _ d => uptoBulk d + 1
  | .map entries => uptoBulkEntries entries + 1
  | .held _ => 1
def uptoBulkAll {H : Type} : List (DataW H) → Nat
  | [] => 0
  | d :: r => uptoBulk d + uptoBulkAll r
def uptoBulkEntries {H : Type} : List (Lit × DataW H) → Nat
  | [] => 0
  | x :: r => uptoBulkEntry x + uptoBulkEntries r
def uptoBulkEntry {H : Type} : Lit × DataW H → Nat
  | (.string bytes, d) => bytes.length + uptoBulk d + 1
  | (_, d) => uptoBulk d + 1
 end
def uptoSmall : (H : Type) → List (DataW H) → Bool := fun _ ds => decide (uptoBulkAll ds ≤ 1048576)
def OpenSpec.upto (s : _root_.Go.ChangeSpec) : _root_.Go.OpenSpec := { _root_.Go.OpenSpec.ofChange s with cond := some uptoSmall }

/-- 'privatefetchlaw43.BoundsSettles', WHERE WHAT IT READS IS OF BULK AT MOST 1048576: true; the input reads as it did. -/
def boundsSettlesUptoRow : OpenClaim := { program := "ytnfalgmfmiolbaagreat", sum := "a734e6b9dc45c5f75d9ee5b1b47a51e058c082f9a473285ca824c66d6b8f9b50", func := "privatefetch/privatefetchlaw43.BoundsSettles", spec := "boundsSettles", unfollowed := true, recurses := true, apart := false, narrowed := true }
def BoundsSettlesUptoSaid : Prop := boundsSettlesUptoRow.holds Tryz.pinned (OpenSpec.upto boundsSettlesSpec)

/-- 'privatefetchlaw43.BoundsSteps', WHERE WHAT IT READS IS OF BULK AT MOST 1048576: true; the input reads as it did. -/
def boundsStepsUptoRow : OpenClaim := { program := "ytnfalgmfmiolbaagreat", sum := "a734e6b9dc45c5f75d9ee5b1b47a51e058c082f9a473285ca824c66d6b8f9b50", func := "privatefetch/privatefetchlaw43.BoundsSteps", spec := "boundsSteps", unfollowed := true, recurses := true, apart := false, narrowed := true }
def BoundsStepsUptoSaid : Prop := boundsStepsUptoRow.holds Tryz.pinned (OpenSpec.upto boundsStepsSpec)

end Rows
end Go.Proofs.YtnfalgmfmiolbaaGreat
