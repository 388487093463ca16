/-
  No cell of these rows narrows 'for every input' (looked for: loops, veiled, ifaces, maps, wideKeys, modest, calm, conditions, laid).
  DERIVED. THE GIVEN ROWS OF THIS SEAT. 6 by the template 'for every input the law returns true; each argument reads behind the call as it read before'; 0 by the template 'total and deterministic' (their statements: YtbhmhindommaeaaTotals.lean).
  GIVEN WITH THE SEED: the statements are not yours to turn. If you find one false, say at which input.
  Laid BY PROGRAM, IN A SANDBOX (cutbox-rows.mjs): the forced cells as the released guide's own fill.sh prints them over the translation 8378738da44b3455… (all of the seat's roots in one cut). By AI agents, Wed Nov 11 2026. No macro, syntax, notation, axiom, sorry.
-/
import Derived.Test.YtbhmhindommaeaaChecked
import GoSem.Claim
import GoSem.ClaimJoined
import GoSem.ClaimMapViews
import Derived.JoinedTies
import Derived.KernelRfl
namespace Go.Proofs.Ytbhmhindommaeaa
/- THE CELL 'sum', in the pinned program and in every row, IS THE sha256 OF THE DUMP (.gsa) THAT YtbhmhindommaeaaProg.lean LOADS. Nothing in Lean hashes anything: it is a label: what it is worth is what the hold of that sum in a sandbox is worth. -/
noncomputable def Try.pinned : Pinned := { name := "ytbhmhindommaeaa", sum := "8378738da44b3455485991fe1259183be4b6ff9b3b490265af0b593da52aaa9e", checked := Try.checked }
namespace Rows
def none {H : Type} : Left H := { results := [], args := [] }

/-- 'privatefetchlaw19.CuckooFails': WHATEVER THE INPUT: true; the input reads as it did. -/
def cuckooFailsSpec : ChangeSpec := { name := "cuckooFails", fn := fun _ => fun
  | [d1, d2, d3, d4] => { results := [.lit (.bool true)], args := [d1, d2, d3, d4] }
  | _ => none }
def cuckooFailsRow : OpenClaim := { program := "ytbhmhindommaeaa", sum := "8378738da44b3455485991fe1259183be4b6ff9b3b490265af0b593da52aaa9e", func := "privatefetch/privatefetchlaw19.CuckooFails", spec := "cuckooFails", unfollowed := true, recurses := true, apart := false }
def CuckooFailsSaid : Prop := cuckooFailsRow.holds Try.pinned (OpenSpec.ofChange cuckooFailsSpec)

/-- ITS FALSE NEIGHBOUR: 'it returns false'. Refute it at one input. -/
def cuckooFailsWrong : ChangeSpec := { name := "cuckooFails", fn := fun _ => fun
  | [d1, d2, d3, d4] => { results := [.lit (.bool false)], args := [d1, d2, d3, d4] }
  | _ => none }
def CuckooFailsWrongFalsely : Prop := cuckooFailsRow.holds Try.pinned (OpenSpec.ofChange cuckooFailsWrong)

/-- 'privatefetchlaw19.CuckooParts': WHATEVER THE INPUT: true; the input reads as it did. -/
def cuckooPartsSpec : ChangeSpec := { name := "cuckooParts", fn := fun _ => fun
  | [d1, d2, d3] => { results := [.lit (.bool true)], args := [d1, d2, d3] }
  | _ => none }
def cuckooPartsRow : OpenClaim := { program := "ytbhmhindommaeaa", sum := "8378738da44b3455485991fe1259183be4b6ff9b3b490265af0b593da52aaa9e", func := "privatefetch/privatefetchlaw19.CuckooParts", spec := "cuckooParts", unfollowed := true, recurses := true, apart := false }
def CuckooPartsSaid : Prop := cuckooPartsRow.holds Try.pinned (OpenSpec.ofChange cuckooPartsSpec)

/-- ITS FALSE NEIGHBOUR: 'it returns false'. Refute it at one input. -/
def cuckooPartsWrong : ChangeSpec := { name := "cuckooParts", fn := fun _ => fun
  | [d1, d2, d3] => { results := [.lit (.bool false)], args := [d1, d2, d3] }
  | _ => none }
def CuckooPartsWrongFalsely : Prop := cuckooPartsRow.holds Try.pinned (OpenSpec.ofChange cuckooPartsWrong)

/-- 'privatefetchlaw19.CuckooOrder': WHATEVER THE INPUT: true; the input reads as it did. -/
def cuckooOrderSpec : ChangeSpec := { name := "cuckooOrder", fn := fun _ => fun
  | [d] => { results := [.lit (.bool true)], args := [d] }
  | _ => none }
def cuckooOrderRow : OpenClaim := { program := "ytbhmhindommaeaa", sum := "8378738da44b3455485991fe1259183be4b6ff9b3b490265af0b593da52aaa9e", func := "privatefetch/privatefetchlaw19.CuckooOrder", spec := "cuckooOrder", unfollowed := true, recurses := true, apart := false }
def CuckooOrderSaid : Prop := cuckooOrderRow.holds Try.pinned (OpenSpec.ofChange cuckooOrderSpec)

/-- ITS FALSE NEIGHBOUR: 'it returns false'. Refute it at one input. -/
def cuckooOrderWrong : ChangeSpec := { name := "cuckooOrder", fn := fun _ => fun
  | [d] => { results := [.lit (.bool false)], args := [d] }
  | _ => none }
def CuckooOrderWrongFalsely : Prop := cuckooOrderRow.holds Try.pinned (OpenSpec.ofChange cuckooOrderWrong)

/-- 'privatefetchlaw19.CuckooPlaces': WHATEVER THE INPUT: true; the input reads as it did. -/
def cuckooPlacesSpec : ChangeSpec := { name := "cuckooPlaces", fn := fun _ => fun
  | [d] => { results := [.lit (.bool true)], args := [d] }
  | _ => none }
def cuckooPlacesRow : OpenClaim := { program := "ytbhmhindommaeaa", sum := "8378738da44b3455485991fe1259183be4b6ff9b3b490265af0b593da52aaa9e", func := "privatefetch/privatefetchlaw19.CuckooPlaces", spec := "cuckooPlaces", unfollowed := true, recurses := true, apart := false }
def CuckooPlacesSaid : Prop := cuckooPlacesRow.holds Try.pinned (OpenSpec.ofChange cuckooPlacesSpec)

/-- ITS FALSE NEIGHBOUR: 'it returns false'. Refute it at one input. -/
def cuckooPlacesWrong : ChangeSpec := { name := "cuckooPlaces", fn := fun _ => fun
  | [d] => { results := [.lit (.bool false)], args := [d] }
  | _ => none }
def CuckooPlacesWrongFalsely : Prop := cuckooPlacesRow.holds Try.pinned (OpenSpec.ofChange cuckooPlacesWrong)

/-- 'privatefetchlaw19.CuckooDoes': WHATEVER THE INPUT: true; the input reads as it did. -/
def cuckooDoesSpec : ChangeSpec := { name := "cuckooDoes", fn := fun _ => fun
  | [d1, d2, d3, d4, d5, d6] => { results := [.lit (.bool true)], args := [d1, d2, d3, d4, d5, d6] }
  | _ => none }
def cuckooDoesRow : OpenClaim := { program := "ytbhmhindommaeaa", sum := "8378738da44b3455485991fe1259183be4b6ff9b3b490265af0b593da52aaa9e", func := "privatefetch/privatefetchlaw19.CuckooDoes", spec := "cuckooDoes", unfollowed := true, recurses := true, apart := false }
def CuckooDoesSaid : Prop := cuckooDoesRow.holds Try.pinned (OpenSpec.ofChange cuckooDoesSpec)

/-- ITS FALSE NEIGHBOUR: 'it returns false'. Refute it at one input. -/
def cuckooDoesWrong : ChangeSpec := { name := "cuckooDoes", fn := fun _ => fun
  | [d1, d2, d3, d4, d5, d6] => { results := [.lit (.bool false)], args := [d1, d2, d3, d4, d5, d6] }
  | _ => none }
def CuckooDoesWrongFalsely : Prop := cuckooDoesRow.holds Try.pinned (OpenSpec.ofChange cuckooDoesWrong)

/-- 'privatefetchlaw19.CuckooSpots': WHATEVER THE INPUT: true; the input reads as it did. -/
def cuckooSpotsSpec : ChangeSpec := { name := "cuckooSpots", fn := fun _ => fun
  | [d] => { results := [.lit (.bool true)], args := [d] }
  | _ => none }
def cuckooSpotsRow : OpenClaim := { program := "ytbhmhindommaeaa", sum := "8378738da44b3455485991fe1259183be4b6ff9b3b490265af0b593da52aaa9e", func := "privatefetch/privatefetchlaw19.CuckooSpots", spec := "cuckooSpots", unfollowed := true, recurses := true, apart := false }
def CuckooSpotsSaid : Prop := cuckooSpotsRow.holds Try.pinned (OpenSpec.ofChange cuckooSpotsSpec)

/-- ITS FALSE NEIGHBOUR: 'it returns false'. Refute it at one input. -/
def cuckooSpotsWrong : ChangeSpec := { name := "cuckooSpots", fn := fun _ => fun
  | [d] => { results := [.lit (.bool false)], args := [d] }
  | _ => none }
def CuckooSpotsWrongFalsely : Prop := cuckooSpotsRow.holds Try.pinned (OpenSpec.ofChange cuckooSpotsWrong)

/- THE SECOND FORM. 'bulk': how many values and letters a reading holds, each counted each time it is reached (what is shared counts as often as it is met; a slice's spare places count too). A statement '..UptoSaid' is the law's where the arguments, and the package variables that the reading takes, are together of bulk at most 1048576: NARROWER than '..Said'. Prove '..Said' where nothing that the law and all that it calls make is longer than what came in: it says more and counts as full. Else prove '..UptoSaid'. A law counts once. -/
mutual
def uptoBulk {H : Type} : DataW H → Nat
  | .lit (.string bytes) => bytes.length + 1
  | .lit _ => 1
  | .nil => 1
  | .ptr d => uptoBulk d + 1
  | .slice elems spare => uptoBulkAll elems + uptoBulkAll spare + 1
  | .agg parts => uptoBulkAll parts + 1
  | .iface _ d => uptoBulk d + 1
  | .map entries => uptoBulkEntries entries + 1
  | .held _ => 1
def uptoBulkAll {H : Type} : List (DataW H) → Nat
  | [] => 0
  | d :: r => uptoBulk d + uptoBulkAll r
def uptoBulkEntries {H : Type} : List (Lit × DataW H) → Nat
  | [] => 0
  | x :: r => uptoBulkEntry x + uptoBulkEntries r
def uptoBulkEntry {H : Type} : Lit × DataW H → Nat
  | (.string bytes, d) => bytes.length + uptoBulk d + 1
  | (_, d) => uptoBulk d + 1
 end
def uptoSmall : (H : Type) → List (DataW H) → Bool := fun _ ds => decide (uptoBulkAll ds ≤ 1048576)
def OpenSpec.upto (s : _root_.Go.ChangeSpec) : _root_.Go.OpenSpec := { _root_.Go.OpenSpec.ofChange s with cond := some uptoSmall }

/-- 'privatefetchlaw19.CuckooFails', WHERE WHAT IT READS IS OF BULK AT MOST 1048576: true; the input reads as it did. -/
def cuckooFailsUptoRow : OpenClaim := { program := "ytbhmhindommaeaa", sum := "8378738da44b3455485991fe1259183be4b6ff9b3b490265af0b593da52aaa9e", func := "privatefetch/privatefetchlaw19.CuckooFails", spec := "cuckooFails", unfollowed := true, recurses := true, apart := false, narrowed := true }
def CuckooFailsUptoSaid : Prop := cuckooFailsUptoRow.holds Try.pinned (OpenSpec.upto cuckooFailsSpec)

/-- 'privatefetchlaw19.CuckooParts', WHERE WHAT IT READS IS OF BULK AT MOST 1048576: true; the input reads as it did. -/
def cuckooPartsUptoRow : OpenClaim := { program := "ytbhmhindommaeaa", sum := "8378738da44b3455485991fe1259183be4b6ff9b3b490265af0b593da52aaa9e", func := "privatefetch/privatefetchlaw19.CuckooParts", spec := "cuckooParts", unfollowed := true, recurses := true, apart := false, narrowed := true }
def CuckooPartsUptoSaid : Prop := cuckooPartsUptoRow.holds Try.pinned (OpenSpec.upto cuckooPartsSpec)

/-- 'privatefetchlaw19.CuckooOrder', WHERE WHAT IT READS IS OF BULK AT MOST 1048576: true; the input reads as it did. -/
def cuckooOrderUptoRow : OpenClaim := { program := "ytbhmhindommaeaa", sum := "8378738da44b3455485991fe1259183be4b6ff9b3b490265af0b593da52aaa9e", func := "privatefetch/privatefetchlaw19.CuckooOrder", spec := "cuckooOrder", unfollowed := true, recurses := true, apart := false, narrowed := true }
def CuckooOrderUptoSaid : Prop := cuckooOrderUptoRow.holds Try.pinned (OpenSpec.upto cuckooOrderSpec)

/-- 'privatefetchlaw19.CuckooPlaces', WHERE WHAT IT READS IS OF BULK AT MOST 1048576: true; the input reads as it did. -/
def cuckooPlacesUptoRow : OpenClaim := { program := "ytbhmhindommaeaa", sum := "8378738da44b3455485991fe1259183be4b6ff9b3b490265af0b593da52aaa9e", func := "privatefetch/privatefetchlaw19.CuckooPlaces", spec := "cuckooPlaces", unfollowed := true, recurses := true, apart := false, narrowed := true }
def CuckooPlacesUptoSaid : Prop := cuckooPlacesUptoRow.holds Try.pinned (OpenSpec.upto cuckooPlacesSpec)

/-- 'privatefetchlaw19.CuckooDoes', WHERE WHAT IT READS IS OF BULK AT MOST 1048576: true; the input reads as it did. -/
def cuckooDoesUptoRow : OpenClaim := { program := "ytbhmhindommaeaa", sum := "8378738da44b3455485991fe1259183be4b6ff9b3b490265af0b593da52aaa9e", func := "privatefetch/privatefetchlaw19.CuckooDoes", spec := "cuckooDoes", unfollowed := true, recurses := true, apart := false, narrowed := true }
def CuckooDoesUptoSaid : Prop := cuckooDoesUptoRow.holds Try.pinned (OpenSpec.upto cuckooDoesSpec)

/-- 'privatefetchlaw19.CuckooSpots', WHERE WHAT IT READS IS OF BULK AT MOST 1048576: true; the input reads as it did. -/
def cuckooSpotsUptoRow : OpenClaim := { program := "ytbhmhindommaeaa", sum := "8378738da44b3455485991fe1259183be4b6ff9b3b490265af0b593da52aaa9e", func := "privatefetch/privatefetchlaw19.CuckooSpots", spec := "cuckooSpots", unfollowed := true, recurses := true, apart := false, narrowed := true }
def CuckooSpotsUptoSaid : Prop := cuckooSpotsUptoRow.holds Try.pinned (OpenSpec.upto cuckooSpotsSpec)

end Rows
end Go.Proofs.Ytbhmhindommaeaa
