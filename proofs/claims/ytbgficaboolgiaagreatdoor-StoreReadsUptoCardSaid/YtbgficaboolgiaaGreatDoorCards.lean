/-
  DERIVED. GIVEN WITH THE SEED: THE CARDS: each row of YtbgficaboolgiaaGreatDoorRows.lean that lists a variable, with what it lists TIED to the program's text (the seventh form; the later family's looks); each row that meets fmt, with fmt's text TOLD by the authors' own Lean function (tested against real Go, not proved from fmt's source: count such statements apart). THE CARD IS WHAT COUNTS. Prove the row's statement (the work); the ties are given (YtbgficaboolgiaaGreatDoorTie.lean); close each card by the builder's one call (the guide's Derived/Test/ToyasCard.lean, 'card_holds'). Laid BY PROGRAM, IN A SANDBOX (cutbox-door.mjs). By AI agents, Wed Nov 11 2026. No macro, syntax, notation, axiom, sorry.
-/
import Derived.Test.YtbgficaboolgiaaGreatDoorRows
import GoSem.ClaimSeven
namespace Go.Proofs.YtbgficaboolgiaaGreatDoor
namespace Rows

/-- THE TIED CARD OF 'testbenchlaw56.StoreReads'. -/
def storeReadsCard : Claim7 := { stood := { row := storeReadsRow, standIns := [], harness := (true, "c3578e3945bea21a10a6e3128bb180aaae18f2d4cdf57a57f90cbe9674b056c5"), looks := false }, kinds := [], alts := [], laidByText := true, laidKinds := [.data, .data, .data], laidTests := true, laidLooks := .later }
def StoreReadsCardSaid : Prop := Claim7.holds Tryz.pinned (.plain (OpenSpec.ofChange storeReadsSpec)) storeReadsCard

/-- THE SECOND FORM's CARD OF 'testbenchlaw56.StoreReads'. -/
def storeReadsUptoCard : Claim7 := { stood := { row := storeReadsUptoRow, standIns := [], harness := (true, "c3578e3945bea21a10a6e3128bb180aaae18f2d4cdf57a57f90cbe9674b056c5"), looks := false }, kinds := [], alts := [], laidByText := true, laidKinds := [.data, .data, .data], laidTests := true, laidLooks := .later }
def StoreReadsUptoCardSaid : Prop := Claim7.holds Tryz.pinned (.plain (OpenSpec.upto storeReadsSpec)) storeReadsUptoCard
end Rows
end Go.Proofs.YtbgficaboolgiaaGreatDoor
