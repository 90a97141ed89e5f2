/-
  DERIVED. GIVEN WITH THE SEED: THE CARDS: each row of YtbjcbndmafddoaaGreatDoorRows.lean that lists a variable, with what it lists TIED to the program's text (the seventh form; the later family's looks); each row that meets fmt, with fmt's text TOLD by the authors' own Lean function (tested against real Go, not proved from fmt's source: count such statements apart). THE CARD IS WHAT COUNTS. Prove the row's statement (the work); the ties are given (YtbjcbndmafddoaaGreatDoorTie.lean); close each card by the builder's one call (the guide's Derived/Test/ToyasCard.lean, 'card_holds'). Laid BY PROGRAM, IN A SANDBOX (cutbox-door.mjs). By AI agents, Wed Nov 11 2026. No macro, syntax, notation, axiom, sorry.
-/
import Derived.Test.YtbjcbndmafddoaaGreatDoorRows
import GoSem.ClaimSeven
namespace Go.Proofs.YtbjcbndmafddoaaGreatDoor
namespace Rows

/-- THE TIED CARD OF 'testbenchlaw26.TxnRoundTrips'. -/
def txnRoundTripsCard : Claim7 := { stood := { row := txnRoundTripsRow, standIns := [], harness := (true, "8a1490a37a1090af830e041b544be0732d982afc331313ded72d15efc3aa2c5c"), looks := false }, kinds := [], alts := [], laidByText := true, laidKinds := [.data, .data, .data, .data, .widerDeep, .pinned], laidTests := true, laidLooks := .later }
def TxnRoundTripsCardSaid : Prop := Claim7.holds Tryz.pinned (.plain (OpenSpec.ofChange txnRoundTripsSpec)) txnRoundTripsCard

/-- THE SECOND FORM's CARD OF 'testbenchlaw26.TxnRoundTrips'. -/
def txnRoundTripsUptoCard : Claim7 := { stood := { row := txnRoundTripsUptoRow, standIns := [], harness := (true, "8a1490a37a1090af830e041b544be0732d982afc331313ded72d15efc3aa2c5c"), looks := false }, kinds := [], alts := [], laidByText := true, laidKinds := [.data, .data, .data, .data, .widerDeep, .pinned], laidTests := true, laidLooks := .later }
def TxnRoundTripsUptoCardSaid : Prop := Claim7.holds Tryz.pinned (.plain (OpenSpec.upto txnRoundTripsSpec)) txnRoundTripsUptoCard
end Rows
end Go.Proofs.YtbjcbndmafddoaaGreatDoor
