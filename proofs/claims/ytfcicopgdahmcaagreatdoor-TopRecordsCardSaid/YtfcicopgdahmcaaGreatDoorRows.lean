/-
  NARROWER THAN 'FOR EVERY INPUT', by the rows' own cells (each row's printed sentence says how): TopRanges: laid · TopSchemes: laid · TopBatch: laid · TopRecords: laid.
  DERIVED. THE GIVEN ROWS OF THIS SEAT. 4 by the template 'for every input the law returns true; each argument reads behind the call as it read before'; 0 by the template 'total and deterministic' (their statements: YtfcicopgdahmcaaGreatDoorTotals.lean).
  GIVEN WITH THE SEED: the statements are not yours to turn. If you find one false, say at which input.
  Laid BY PROGRAM, IN A SANDBOX (cutbox-rows.mjs): the forced cells as the released guide's own fill.sh prints them over the translation fc52080928e49b98… (all of the seat's roots in one cut). By AI agents, Wed Nov 11 2026. No macro, syntax, notation, axiom, sorry.
-/
import Derived.Test.YtfcicopgdahmcaaGreatDoorChecked
import GoSem.Claim
import GoSem.ClaimJoined
import GoSem.ClaimMapViews
import Derived.JoinedTies
import Derived.KernelRfl
namespace Go.Proofs.YtfcicopgdahmcaaGreatDoor
/- THE CELL 'sum', in the pinned program and in every row, IS THE sha256 OF THE DUMP (.gsa) THAT YtfcicopgdahmcaaGreatDoorProg.lean LOADS. Nothing in Lean hashes anything: it is a label: what it is worth is what the hold of that sum in a sandbox is worth. -/
noncomputable def Tryz.pinned : Pinned := { name := "ytfcicopgdahmcaagreatdoor", sum := "fc52080928e49b98234194098f4aeb24f9fe4dc31bd82adbec60bc1f10238e6a", checked := Tryz.checked }
namespace Rows
def none {H : Type} : Left H := { results := [], args := [] }

/- WHAT THE LISTED PACKAGE-LEVEL VARIABLES READ AS WHEN THE CALL BEGINS. Each datum BY PROGRAM (the guide's laid-datum.mjs) off the statement by which the dump's own 'gosem.cut.vars' lays the variable. In a bare row this is a premise. The card (YtfcicopgdahmcaaGreatDoorCards.lean) ties it to the program's text. -/
def laid_privatefetch_unique_errWrong {H : Type} : DataW H := .iface "privatefetch/unique.failure" (.agg [.lit (.int .i64 12)])

/-- 'privatefetchtop.TopRanges': WHATEVER THE INPUT: true; the input reads as it did. -/
def topRangesSpec : ChangeSpec := { name := "topRanges", fn := fun _ => fun
  | [d1, d2] => { results := [.lit (.bool true)], args := [d1, d2] }
  | _ => none }
def topRangesRow : OpenClaim := { program := "ytfcicopgdahmcaagreatdoor", sum := "fc52080928e49b98234194098f4aeb24f9fe4dc31bd82adbec60bc1f10238e6a", func := "privatefetch/privatefetchtop.TopRanges", spec := "topRanges", inPlace := ["internal/reflectlite.TypeOf"], unfollowed := true, recurses := true, named := ["privatefetch/unique.errWrong"], apart := false, laid := [("privatefetch/unique.errWrong", laid_privatefetch_unique_errWrong)] }
def TopRangesSaid : Prop := topRangesRow.holds Tryz.pinned (OpenSpec.ofChange topRangesSpec)

/-- ITS FALSE NEIGHBOUR: 'it returns false'. Refute it at one input. -/
def topRangesWrong : ChangeSpec := { name := "topRanges", fn := fun _ => fun
  | [d1, d2] => { results := [.lit (.bool false)], args := [d1, d2] }
  | _ => none }
def TopRangesWrongFalsely : Prop := topRangesRow.holds Tryz.pinned (OpenSpec.ofChange topRangesWrong)

/-- 'privatefetchtop.TopSchemes': WHATEVER THE INPUT: true; the input reads as it did. -/
def topSchemesSpec : ChangeSpec := { name := "topSchemes", fn := fun _ => fun
  | [d1, d2] => { results := [.lit (.bool true)], args := [d1, d2] }
  | _ => none }
def topSchemesRow : OpenClaim := { program := "ytfcicopgdahmcaagreatdoor", sum := "fc52080928e49b98234194098f4aeb24f9fe4dc31bd82adbec60bc1f10238e6a", func := "privatefetch/privatefetchtop.TopSchemes", spec := "topSchemes", inPlace := ["internal/reflectlite.TypeOf"], unfollowed := true, recurses := true, named := ["privatefetch/unique.errWrong"], apart := false, laid := [("privatefetch/unique.errWrong", laid_privatefetch_unique_errWrong)] }
def TopSchemesSaid : Prop := topSchemesRow.holds Tryz.pinned (OpenSpec.ofChange topSchemesSpec)

/-- ITS FALSE NEIGHBOUR: 'it returns false'. Refute it at one input. -/
def topSchemesWrong : ChangeSpec := { name := "topSchemes", fn := fun _ => fun
  | [d1, d2] => { results := [.lit (.bool false)], args := [d1, d2] }
  | _ => none }
def TopSchemesWrongFalsely : Prop := topSchemesRow.holds Tryz.pinned (OpenSpec.ofChange topSchemesWrong)

/-- 'privatefetchtop.TopBatch': WHATEVER THE INPUT: true; the input reads as it did. -/
def topBatchSpec : ChangeSpec := { name := "topBatch", fn := fun _ => fun
  | [d] => { results := [.lit (.bool true)], args := [d] }
  | _ => none }
def topBatchRow : OpenClaim := { program := "ytfcicopgdahmcaagreatdoor", sum := "fc52080928e49b98234194098f4aeb24f9fe4dc31bd82adbec60bc1f10238e6a", func := "privatefetch/privatefetchtop.TopBatch", spec := "topBatch", inPlace := ["internal/reflectlite.TypeOf"], unfollowed := true, recurses := true, named := ["privatefetch/unique.errWrong"], apart := false, laid := [("privatefetch/unique.errWrong", laid_privatefetch_unique_errWrong)] }
def TopBatchSaid : Prop := topBatchRow.holds Tryz.pinned (OpenSpec.ofChange topBatchSpec)

/-- ITS FALSE NEIGHBOUR: 'it returns false'. Refute it at one input. -/
def topBatchWrong : ChangeSpec := { name := "topBatch", fn := fun _ => fun
  | [d] => { results := [.lit (.bool false)], args := [d] }
  | _ => none }
def TopBatchWrongFalsely : Prop := topBatchRow.holds Tryz.pinned (OpenSpec.ofChange topBatchWrong)

/-- 'privatefetchtop.TopRecords': WHATEVER THE INPUT: true; the input reads as it did. -/
def topRecordsSpec : ChangeSpec := { name := "topRecords", fn := fun _ => fun
  | [d1, d2] => { results := [.lit (.bool true)], args := [d1, d2] }
  | _ => none }
def topRecordsRow : OpenClaim := { program := "ytfcicopgdahmcaagreatdoor", sum := "fc52080928e49b98234194098f4aeb24f9fe4dc31bd82adbec60bc1f10238e6a", func := "privatefetch/privatefetchtop.TopRecords", spec := "topRecords", inPlace := ["internal/reflectlite.TypeOf"], unfollowed := true, recurses := true, named := ["privatefetch/unique.errWrong"], apart := false, laid := [("privatefetch/unique.errWrong", laid_privatefetch_unique_errWrong)] }
def TopRecordsSaid : Prop := topRecordsRow.holds Tryz.pinned (OpenSpec.ofChange topRecordsSpec)

/-- ITS FALSE NEIGHBOUR: 'it returns false'. Refute it at one input. -/
def topRecordsWrong : ChangeSpec := { name := "topRecords", fn := fun _ => fun
  | [d1, d2] => { results := [.lit (.bool false)], args := [d1, d2] }
  | _ => none }
def TopRecordsWrongFalsely : Prop := topRecordsRow.holds Tryz.pinned (OpenSpec.ofChange topRecordsWrong)

/- THE SECOND FORM. 'bulk': how many values and letters a reading holds, each counted each time it is reached (what is shared counts as often as it is met; a slice's spare places count too). A statement '..UptoSaid' is the law's where the arguments, and the package variables that the reading takes, are together of bulk at most 1048576: NARROWER than '..Said'. Prove '..Said' where nothing that the law and all that it calls make is longer than what came in: it says more and counts as full. Else prove '..UptoSaid'. A law counts once. -/
mutual
def uptoBulk {H : Type} : DataW H → Nat
  | .lit (.string bytes) => bytes.length + 1
  | .lit _ => 1
  | .nil => 1
  | .ptr d => uptoBulk d + 1
  | .slice elems spare => uptoBulkAll elems + uptoBulkAll spare + 1
  | .agg parts => uptoBulkAll parts + 1
  | .iface _ d => uptoBulk d + 1
  | .map entries => uptoBulkEntries entries + 1
  | .held _ => 1
def uptoBulkAll {H : Type} : List (DataW H) → Nat
  | [] => 0
  | d :: r => uptoBulk d + uptoBulkAll r
def uptoBulkEntries {H : Type} : List (Lit × DataW H) → Nat
  | [] => 0
  | x :: r => uptoBulkEntry x + uptoBulkEntries r
def uptoBulkEntry {H : Type} : Lit × DataW H → Nat
  | (.string bytes, d) => bytes.length + uptoBulk d + 1
  | (_, d) => uptoBulk d + 1
 end
def uptoSmall : (H : Type) → List (DataW H) → Bool := fun _ ds => decide (uptoBulkAll ds ≤ 1048576)
def OpenSpec.upto (s : _root_.Go.ChangeSpec) : _root_.Go.OpenSpec := { _root_.Go.OpenSpec.ofChange s with cond := some uptoSmall }

/-- 'privatefetchtop.TopRanges', WHERE WHAT IT READS IS OF BULK AT MOST 1048576: true; the input reads as it did. -/
def topRangesUptoRow : OpenClaim := { program := "ytfcicopgdahmcaagreatdoor", sum := "fc52080928e49b98234194098f4aeb24f9fe4dc31bd82adbec60bc1f10238e6a", func := "privatefetch/privatefetchtop.TopRanges", spec := "topRanges", inPlace := ["internal/reflectlite.TypeOf"], unfollowed := true, recurses := true, named := ["privatefetch/unique.errWrong"], apart := false, laid := [("privatefetch/unique.errWrong", laid_privatefetch_unique_errWrong)], narrowed := true }
def TopRangesUptoSaid : Prop := topRangesUptoRow.holds Tryz.pinned (OpenSpec.upto topRangesSpec)

/-- 'privatefetchtop.TopSchemes', WHERE WHAT IT READS IS OF BULK AT MOST 1048576: true; the input reads as it did. -/
def topSchemesUptoRow : OpenClaim := { program := "ytfcicopgdahmcaagreatdoor", sum := "fc52080928e49b98234194098f4aeb24f9fe4dc31bd82adbec60bc1f10238e6a", func := "privatefetch/privatefetchtop.TopSchemes", spec := "topSchemes", inPlace := ["internal/reflectlite.TypeOf"], unfollowed := true, recurses := true, named := ["privatefetch/unique.errWrong"], apart := false, laid := [("privatefetch/unique.errWrong", laid_privatefetch_unique_errWrong)], narrowed := true }
def TopSchemesUptoSaid : Prop := topSchemesUptoRow.holds Tryz.pinned (OpenSpec.upto topSchemesSpec)

/-- 'privatefetchtop.TopBatch', WHERE WHAT IT READS IS OF BULK AT MOST 1048576: true; the input reads as it did. -/
def topBatchUptoRow : OpenClaim := { program := "ytfcicopgdahmcaagreatdoor", sum := "fc52080928e49b98234194098f4aeb24f9fe4dc31bd82adbec60bc1f10238e6a", func := "privatefetch/privatefetchtop.TopBatch", spec := "topBatch", inPlace := ["internal/reflectlite.TypeOf"], unfollowed := true, recurses := true, named := ["privatefetch/unique.errWrong"], apart := false, laid := [("privatefetch/unique.errWrong", laid_privatefetch_unique_errWrong)], narrowed := true }
def TopBatchUptoSaid : Prop := topBatchUptoRow.holds Tryz.pinned (OpenSpec.upto topBatchSpec)

/-- 'privatefetchtop.TopRecords', WHERE WHAT IT READS IS OF BULK AT MOST 1048576: true; the input reads as it did. -/
def topRecordsUptoRow : OpenClaim := { program := "ytfcicopgdahmcaagreatdoor", sum := "fc52080928e49b98234194098f4aeb24f9fe4dc31bd82adbec60bc1f10238e6a", func := "privatefetch/privatefetchtop.TopRecords", spec := "topRecords", inPlace := ["internal/reflectlite.TypeOf"], unfollowed := true, recurses := true, named := ["privatefetch/unique.errWrong"], apart := false, laid := [("privatefetch/unique.errWrong", laid_privatefetch_unique_errWrong)], narrowed := true }
def TopRecordsUptoSaid : Prop := topRecordsUptoRow.holds Tryz.pinned (OpenSpec.upto topRecordsSpec)

end Rows
end Go.Proofs.YtfcicopgdahmcaaGreatDoor
