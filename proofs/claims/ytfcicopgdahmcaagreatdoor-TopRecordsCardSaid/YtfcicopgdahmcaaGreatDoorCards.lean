/-
  DERIVED. GIVEN WITH THE SEED: THE CARDS: each row of YtfcicopgdahmcaaGreatDoorRows.lean that lists a variable, with what it lists TIED to the program's text (the seventh form; the later family's looks); each row that meets fmt, with fmt's text TOLD by the authors' own Lean function (tested against real Go, not proved from fmt's source: count such statements apart). THE CARD IS WHAT COUNTS. Prove the row's statement (the work); the ties are given (YtfcicopgdahmcaaGreatDoorTie.lean); close each card by the builder's one call (the guide's Derived/Test/ToyasCard.lean, 'card_holds'). Laid BY PROGRAM, IN A SANDBOX (cutbox-door.mjs). By AI agents, Wed Nov 11 2026. No macro, syntax, notation, axiom, sorry.
-/
import Derived.Test.YtfcicopgdahmcaaGreatDoorRows
import GoSem.ClaimSeven
namespace Go.Proofs.YtfcicopgdahmcaaGreatDoor
namespace Rows

/-- THE TIED CARD OF 'privatefetchtop.TopRanges'. -/
def topRangesCard : Claim7 := { stood := { row := topRangesRow, standIns := [], harness := (true, "90035d2c35e21f58dc260d4b2816d8f9775ec62d5c7b548300def91683236003"), looks := true }, kinds := [], alts := [], laidByText := true, laidKinds := [.wider], laidTests := true, laidLooks := .later }
def TopRangesCardSaid : Prop := Claim7.holds Tryz.pinned (.plain (OpenSpec.ofChange topRangesSpec)) topRangesCard

/-- THE TIED CARD OF 'privatefetchtop.TopSchemes'. -/
def topSchemesCard : Claim7 := { stood := { row := topSchemesRow, standIns := [], harness := (true, "90035d2c35e21f58dc260d4b2816d8f9775ec62d5c7b548300def91683236003"), looks := true }, kinds := [], alts := [], laidByText := true, laidKinds := [.wider], laidTests := true, laidLooks := .later }
def TopSchemesCardSaid : Prop := Claim7.holds Tryz.pinned (.plain (OpenSpec.ofChange topSchemesSpec)) topSchemesCard

/-- THE TIED CARD OF 'privatefetchtop.TopBatch'. -/
def topBatchCard : Claim7 := { stood := { row := topBatchRow, standIns := [], harness := (true, "90035d2c35e21f58dc260d4b2816d8f9775ec62d5c7b548300def91683236003"), looks := true }, kinds := [], alts := [], laidByText := true, laidKinds := [.wider], laidTests := true, laidLooks := .later }
def TopBatchCardSaid : Prop := Claim7.holds Tryz.pinned (.plain (OpenSpec.ofChange topBatchSpec)) topBatchCard

/-- THE TIED CARD OF 'privatefetchtop.TopRecords'. -/
def topRecordsCard : Claim7 := { stood := { row := topRecordsRow, standIns := [], harness := (true, "90035d2c35e21f58dc260d4b2816d8f9775ec62d5c7b548300def91683236003"), looks := true }, kinds := [], alts := [], laidByText := true, laidKinds := [.wider], laidTests := true, laidLooks := .later }
def TopRecordsCardSaid : Prop := Claim7.holds Tryz.pinned (.plain (OpenSpec.ofChange topRecordsSpec)) topRecordsCard

/-- THE SECOND FORM's CARD OF 'privatefetchtop.TopRanges'. -/
def topRangesUptoCard : Claim7 := { stood := { row := topRangesUptoRow, standIns := [], harness := (true, "90035d2c35e21f58dc260d4b2816d8f9775ec62d5c7b548300def91683236003"), looks := true }, kinds := [], alts := [], laidByText := true, laidKinds := [.wider], laidTests := true, laidLooks := .later }
def TopRangesUptoCardSaid : Prop := Claim7.holds Tryz.pinned (.plain (OpenSpec.upto topRangesSpec)) topRangesUptoCard

/-- THE SECOND FORM's CARD OF 'privatefetchtop.TopSchemes'. -/
def topSchemesUptoCard : Claim7 := { stood := { row := topSchemesUptoRow, standIns := [], harness := (true, "90035d2c35e21f58dc260d4b2816d8f9775ec62d5c7b548300def91683236003"), looks := true }, kinds := [], alts := [], laidByText := true, laidKinds := [.wider], laidTests := true, laidLooks := .later }
def TopSchemesUptoCardSaid : Prop := Claim7.holds Tryz.pinned (.plain (OpenSpec.upto topSchemesSpec)) topSchemesUptoCard

/-- THE SECOND FORM's CARD OF 'privatefetchtop.TopBatch'. -/
def topBatchUptoCard : Claim7 := { stood := { row := topBatchUptoRow, standIns := [], harness := (true, "90035d2c35e21f58dc260d4b2816d8f9775ec62d5c7b548300def91683236003"), looks := true }, kinds := [], alts := [], laidByText := true, laidKinds := [.wider], laidTests := true, laidLooks := .later }
def TopBatchUptoCardSaid : Prop := Claim7.holds Tryz.pinned (.plain (OpenSpec.upto topBatchSpec)) topBatchUptoCard

/-- THE SECOND FORM's CARD OF 'privatefetchtop.TopRecords'. -/
def topRecordsUptoCard : Claim7 := { stood := { row := topRecordsUptoRow, standIns := [], harness := (true, "90035d2c35e21f58dc260d4b2816d8f9775ec62d5c7b548300def91683236003"), looks := true }, kinds := [], alts := [], laidByText := true, laidKinds := [.wider], laidTests := true, laidLooks := .later }
def TopRecordsUptoCardSaid : Prop := Claim7.holds Tryz.pinned (.plain (OpenSpec.upto topRecordsSpec)) topRecordsUptoCard
end Rows
end Go.Proofs.YtfcicopgdahmcaaGreatDoor
