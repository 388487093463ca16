/-
  No cell of these rows narrows 'for every input' (looked for: loops, veiled, ifaces, maps, wideKeys, modest, calm, conditions, laid).
  DERIVED. THE GIVEN ROWS OF THIS SEAT. 7 by the template 'for every input the law returns true; each argument reads behind the call as it read before'; 0 by the template 'total and deterministic' (their statements: YthgmcgldmahgeaaTotals.lean).
  GIVEN WITH THE SEED: the statements are not yours to turn. If you find one false, say at which input.
  Laid BY PROGRAM, IN A SANDBOX (cutbox-rows.mjs): the forced cells as the released guide's own fill.sh prints them over the translation c13360352f4570a0… (all of the seat's roots in one cut). By AI agents, Wed Nov 11 2026. No macro, syntax, notation, axiom, sorry.
-/
import Derived.Test.YthgmcgldmahgeaaChecked
import GoSem.Claim
import GoSem.ClaimJoined
import GoSem.ClaimMapViews
import Derived.JoinedTies
import Derived.KernelRfl
namespace Go.Proofs.Ythgmcgldmahgeaa
/- THE CELL 'sum', in the pinned program and in every row, IS THE sha256 OF THE DUMP (.gsa) THAT YthgmcgldmahgeaaProg.lean LOADS. Nothing in Lean hashes anything: it is a label: what it is worth is what the hold of that sum in a sandbox is worth. -/
noncomputable def Try.pinned : Pinned := { name := "ythgmcgldmahgeaa", sum := "c13360352f4570a0b20a04369f2cb00f0ceb39341016975e60e7f35d43e69b8a", checked := Try.checked }
namespace Rows
def none {H : Type} : Left H := { results := [], args := [] }

/-- 'privatefetchlaw13.LayoutDoes': WHATEVER THE INPUT: true; the input reads as it did. -/
def layoutDoesSpec : ChangeSpec := { name := "layoutDoes", fn := fun _ => fun
  | [d1, d2, d3, d4, d5, d6] => { results := [.lit (.bool true)], args := [d1, d2, d3, d4, d5, d6] }
  | _ => none }
def layoutDoesRow : OpenClaim := { program := "ythgmcgldmahgeaa", sum := "c13360352f4570a0b20a04369f2cb00f0ceb39341016975e60e7f35d43e69b8a", func := "privatefetch/privatefetchlaw13.LayoutDoes", spec := "layoutDoes", unfollowed := true, recurses := true, apart := false }
def LayoutDoesSaid : Prop := layoutDoesRow.holds Try.pinned (OpenSpec.ofChange layoutDoesSpec)

/-- ITS FALSE NEIGHBOUR: 'it returns false'. Refute it at one input. -/
def layoutDoesWrong : ChangeSpec := { name := "layoutDoes", fn := fun _ => fun
  | [d1, d2, d3, d4, d5, d6] => { results := [.lit (.bool false)], args := [d1, d2, d3, d4, d5, d6] }
  | _ => none }
def LayoutDoesWrongFalsely : Prop := layoutDoesRow.holds Try.pinned (OpenSpec.ofChange layoutDoesWrong)

/-- 'privatefetchlaw13.LayoutBack': WHATEVER THE INPUT: true; the input reads as it did. -/
def layoutBackSpec : ChangeSpec := { name := "layoutBack", fn := fun _ => fun
  | [d1, d2] => { results := [.lit (.bool true)], args := [d1, d2] }
  | _ => none }
def layoutBackRow : OpenClaim := { program := "ythgmcgldmahgeaa", sum := "c13360352f4570a0b20a04369f2cb00f0ceb39341016975e60e7f35d43e69b8a", func := "privatefetch/privatefetchlaw13.LayoutBack", spec := "layoutBack", unfollowed := true, recurses := true, apart := false }
def LayoutBackSaid : Prop := layoutBackRow.holds Try.pinned (OpenSpec.ofChange layoutBackSpec)

/-- ITS FALSE NEIGHBOUR: 'it returns false'. Refute it at one input. -/
def layoutBackWrong : ChangeSpec := { name := "layoutBack", fn := fun _ => fun
  | [d1, d2] => { results := [.lit (.bool false)], args := [d1, d2] }
  | _ => none }
def LayoutBackWrongFalsely : Prop := layoutBackRow.holds Try.pinned (OpenSpec.ofChange layoutBackWrong)

/-- 'privatefetchlaw13.LayoutWidths': WHATEVER THE INPUT: true; the input reads as it did. -/
def layoutWidthsSpec : ChangeSpec := { name := "layoutWidths", fn := fun _ => fun
  | [d1, d2, d3] => { results := [.lit (.bool true)], args := [d1, d2, d3] }
  | _ => none }
def layoutWidthsRow : OpenClaim := { program := "ythgmcgldmahgeaa", sum := "c13360352f4570a0b20a04369f2cb00f0ceb39341016975e60e7f35d43e69b8a", func := "privatefetch/privatefetchlaw13.LayoutWidths", spec := "layoutWidths", unfollowed := true, recurses := true, apart := false }
def LayoutWidthsSaid : Prop := layoutWidthsRow.holds Try.pinned (OpenSpec.ofChange layoutWidthsSpec)

/-- ITS FALSE NEIGHBOUR: 'it returns false'. Refute it at one input. -/
def layoutWidthsWrong : ChangeSpec := { name := "layoutWidths", fn := fun _ => fun
  | [d1, d2, d3] => { results := [.lit (.bool false)], args := [d1, d2, d3] }
  | _ => none }
def LayoutWidthsWrongFalsely : Prop := layoutWidthsRow.holds Try.pinned (OpenSpec.ofChange layoutWidthsWrong)

/-- 'privatefetchlaw13.LayoutMore': WHATEVER THE INPUT: true; the input reads as it did. -/
def layoutMoreSpec : ChangeSpec := { name := "layoutMore", fn := fun _ => fun
  | [d1, d2] => { results := [.lit (.bool true)], args := [d1, d2] }
  | _ => none }
def layoutMoreRow : OpenClaim := { program := "ythgmcgldmahgeaa", sum := "c13360352f4570a0b20a04369f2cb00f0ceb39341016975e60e7f35d43e69b8a", func := "privatefetch/privatefetchlaw13.LayoutMore", spec := "layoutMore", unfollowed := true, recurses := true, apart := false }
def LayoutMoreSaid : Prop := layoutMoreRow.holds Try.pinned (OpenSpec.ofChange layoutMoreSpec)

/-- ITS FALSE NEIGHBOUR: 'it returns false'. Refute it at one input. -/
def layoutMoreWrong : ChangeSpec := { name := "layoutMore", fn := fun _ => fun
  | [d1, d2] => { results := [.lit (.bool false)], args := [d1, d2] }
  | _ => none }
def LayoutMoreWrongFalsely : Prop := layoutMoreRow.holds Try.pinned (OpenSpec.ofChange layoutMoreWrong)

/-- 'privatefetchlaw13.LayoutDigits': WHATEVER THE INPUT: true; the input reads as it did. -/
def layoutDigitsSpec : ChangeSpec := { name := "layoutDigits", fn := fun _ => fun
  | [d1, d2] => { results := [.lit (.bool true)], args := [d1, d2] }
  | _ => none }
def layoutDigitsRow : OpenClaim := { program := "ythgmcgldmahgeaa", sum := "c13360352f4570a0b20a04369f2cb00f0ceb39341016975e60e7f35d43e69b8a", func := "privatefetch/privatefetchlaw13.LayoutDigits", spec := "layoutDigits", unfollowed := true, recurses := true, apart := false }
def LayoutDigitsSaid : Prop := layoutDigitsRow.holds Try.pinned (OpenSpec.ofChange layoutDigitsSpec)

/-- ITS FALSE NEIGHBOUR: 'it returns false'. Refute it at one input. -/
def layoutDigitsWrong : ChangeSpec := { name := "layoutDigits", fn := fun _ => fun
  | [d1, d2] => { results := [.lit (.bool false)], args := [d1, d2] }
  | _ => none }
def LayoutDigitsWrongFalsely : Prop := layoutDigitsRow.holds Try.pinned (OpenSpec.ofChange layoutDigitsWrong)

/-- 'privatefetchlaw13.LayoutReads': WHATEVER THE INPUT: true; the input reads as it did. -/
def layoutReadsSpec : ChangeSpec := { name := "layoutReads", fn := fun _ => fun
  | [d1, d2, d3, d4, d5] => { results := [.lit (.bool true)], args := [d1, d2, d3, d4, d5] }
  | _ => none }
def layoutReadsRow : OpenClaim := { program := "ythgmcgldmahgeaa", sum := "c13360352f4570a0b20a04369f2cb00f0ceb39341016975e60e7f35d43e69b8a", func := "privatefetch/privatefetchlaw13.LayoutReads", spec := "layoutReads", unfollowed := true, recurses := true, apart := false }
def LayoutReadsSaid : Prop := layoutReadsRow.holds Try.pinned (OpenSpec.ofChange layoutReadsSpec)

/-- ITS FALSE NEIGHBOUR: 'it returns false'. Refute it at one input. -/
def layoutReadsWrong : ChangeSpec := { name := "layoutReads", fn := fun _ => fun
  | [d1, d2, d3, d4, d5] => { results := [.lit (.bool false)], args := [d1, d2, d3, d4, d5] }
  | _ => none }
def LayoutReadsWrongFalsely : Prop := layoutReadsRow.holds Try.pinned (OpenSpec.ofChange layoutReadsWrong)

/-- 'privatefetchlaw13.LayoutAsked': WHATEVER THE INPUT: true; the input reads as it did. -/
def layoutAskedSpec : ChangeSpec := { name := "layoutAsked", fn := fun _ => fun
  | [d] => { results := [.lit (.bool true)], args := [d] }
  | _ => none }
def layoutAskedRow : OpenClaim := { program := "ythgmcgldmahgeaa", sum := "c13360352f4570a0b20a04369f2cb00f0ceb39341016975e60e7f35d43e69b8a", func := "privatefetch/privatefetchlaw13.LayoutAsked", spec := "layoutAsked", unfollowed := true, recurses := true, apart := false }
def LayoutAskedSaid : Prop := layoutAskedRow.holds Try.pinned (OpenSpec.ofChange layoutAskedSpec)

/-- ITS FALSE NEIGHBOUR: 'it returns false'. Refute it at one input. -/
def layoutAskedWrong : ChangeSpec := { name := "layoutAsked", fn := fun _ => fun
  | [d] => { results := [.lit (.bool false)], args := [d] }
  | _ => none }
def LayoutAskedWrongFalsely : Prop := layoutAskedRow.holds Try.pinned (OpenSpec.ofChange layoutAskedWrong)

/- THE SECOND FORM. 'bulk': how many values and letters a reading holds, each counted each time it is reached (what is shared counts as often as it is met; a slice's spare places count too). A statement '..UptoSaid' is the law's where the arguments, and the package variables that the reading takes, are together of bulk at most 1048576: NARROWER than '..Said'. Prove '..Said' where nothing that the law and all that it calls make is longer than what came in: it says more and counts as full. Else prove '..UptoSaid'. A law counts once. -/
mutual
def uptoBulk {H : Type} : DataW H → Nat
  | .lit (.string bytes) => bytes.length + 1
  | .lit _ => 1
  | .nil => 1
  | .ptr d => uptoBulk d + 1
  | .slice elems spare => uptoBulkAll elems + uptoBulkAll spare + 1
  | .agg parts => uptoBulkAll parts + 1
  | .iface _ d => uptoBulk d + 1
  | .map entries => uptoBulkEntries entries + 1
  | .held _ => 1
def uptoBulkAll {H : Type} : List (DataW H) → Nat
  | [] => 0
  | d :: r => uptoBulk d + uptoBulkAll r
def uptoBulkEntries {H : Type} : List (Lit × DataW H) → Nat
  | [] => 0
  | x :: r => uptoBulkEntry x + uptoBulkEntries r
def uptoBulkEntry {H : Type} : Lit × DataW H → Nat
  | (.string bytes, d) => bytes.length + uptoBulk d + 1
  | (_, d) => uptoBulk d + 1
 end
def uptoSmall : (H : Type) → List (DataW H) → Bool := fun _ ds => decide (uptoBulkAll ds ≤ 1048576)
def OpenSpec.upto (s : _root_.Go.ChangeSpec) : _root_.Go.OpenSpec := { _root_.Go.OpenSpec.ofChange s with cond := some uptoSmall }

/-- 'privatefetchlaw13.LayoutDoes', WHERE WHAT IT READS IS OF BULK AT MOST 1048576: true; the input reads as it did. -/
def layoutDoesUptoRow : OpenClaim := { program := "ythgmcgldmahgeaa", sum := "c13360352f4570a0b20a04369f2cb00f0ceb39341016975e60e7f35d43e69b8a", func := "privatefetch/privatefetchlaw13.LayoutDoes", spec := "layoutDoes", unfollowed := true, recurses := true, apart := false, narrowed := true }
def LayoutDoesUptoSaid : Prop := layoutDoesUptoRow.holds Try.pinned (OpenSpec.upto layoutDoesSpec)

/-- 'privatefetchlaw13.LayoutBack', WHERE WHAT IT READS IS OF BULK AT MOST 1048576: true; the input reads as it did. -/
def layoutBackUptoRow : OpenClaim := { program := "ythgmcgldmahgeaa", sum := "c13360352f4570a0b20a04369f2cb00f0ceb39341016975e60e7f35d43e69b8a", func := "privatefetch/privatefetchlaw13.LayoutBack", spec := "layoutBack", unfollowed := true, recurses := true, apart := false, narrowed := true }
def LayoutBackUptoSaid : Prop := layoutBackUptoRow.holds Try.pinned (OpenSpec.upto layoutBackSpec)

/-- 'privatefetchlaw13.LayoutWidths', WHERE WHAT IT READS IS OF BULK AT MOST 1048576: true; the input reads as it did. -/
def layoutWidthsUptoRow : OpenClaim := { program := "ythgmcgldmahgeaa", sum := "c13360352f4570a0b20a04369f2cb00f0ceb39341016975e60e7f35d43e69b8a", func := "privatefetch/privatefetchlaw13.LayoutWidths", spec := "layoutWidths", unfollowed := true, recurses := true, apart := false, narrowed := true }
def LayoutWidthsUptoSaid : Prop := layoutWidthsUptoRow.holds Try.pinned (OpenSpec.upto layoutWidthsSpec)

/-- 'privatefetchlaw13.LayoutMore', WHERE WHAT IT READS IS OF BULK AT MOST 1048576: true; the input reads as it did. -/
def layoutMoreUptoRow : OpenClaim := { program := "ythgmcgldmahgeaa", sum := "c13360352f4570a0b20a04369f2cb00f0ceb39341016975e60e7f35d43e69b8a", func := "privatefetch/privatefetchlaw13.LayoutMore", spec := "layoutMore", unfollowed := true, recurses := true, apart := false, narrowed := true }
def LayoutMoreUptoSaid : Prop := layoutMoreUptoRow.holds Try.pinned (OpenSpec.upto layoutMoreSpec)

/-- 'privatefetchlaw13.LayoutDigits', WHERE WHAT IT READS IS OF BULK AT MOST 1048576: true; the input reads as it did. -/
def layoutDigitsUptoRow : OpenClaim := { program := "ythgmcgldmahgeaa", sum := "c13360352f4570a0b20a04369f2cb00f0ceb39341016975e60e7f35d43e69b8a", func := "privatefetch/privatefetchlaw13.LayoutDigits", spec := "layoutDigits", unfollowed := true, recurses := true, apart := false, narrowed := true }
def LayoutDigitsUptoSaid : Prop := layoutDigitsUptoRow.holds Try.pinned (OpenSpec.upto layoutDigitsSpec)

/-- 'privatefetchlaw13.LayoutReads', WHERE WHAT IT READS IS OF BULK AT MOST 1048576: true; the input reads as it did. -/
def layoutReadsUptoRow : OpenClaim := { program := "ythgmcgldmahgeaa", sum := "c13360352f4570a0b20a04369f2cb00f0ceb39341016975e60e7f35d43e69b8a", func := "privatefetch/privatefetchlaw13.LayoutReads", spec := "layoutReads", unfollowed := true, recurses := true, apart := false, narrowed := true }
def LayoutReadsUptoSaid : Prop := layoutReadsUptoRow.holds Try.pinned (OpenSpec.upto layoutReadsSpec)

/-- 'privatefetchlaw13.LayoutAsked', WHERE WHAT IT READS IS OF BULK AT MOST 1048576: true; the input reads as it did. -/
def layoutAskedUptoRow : OpenClaim := { program := "ythgmcgldmahgeaa", sum := "c13360352f4570a0b20a04369f2cb00f0ceb39341016975e60e7f35d43e69b8a", func := "privatefetch/privatefetchlaw13.LayoutAsked", spec := "layoutAsked", unfollowed := true, recurses := true, apart := false, narrowed := true }
def LayoutAskedUptoSaid : Prop := layoutAskedUptoRow.holds Try.pinned (OpenSpec.upto layoutAskedSpec)

end Rows
end Go.Proofs.Ythgmcgldmahgeaa
