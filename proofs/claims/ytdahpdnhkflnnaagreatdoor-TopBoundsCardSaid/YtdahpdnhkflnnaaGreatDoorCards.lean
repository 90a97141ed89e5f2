/-
  DERIVED. GIVEN WITH THE SEED: THE CARDS: each row of YtdahpdnhkflnnaaGreatDoorRows.lean that lists a variable, with what it lists TIED to the program's text (the seventh form; the later family's looks); each row that meets fmt, with fmt's text TOLD by the authors' own Lean function (tested against real Go, not proved from fmt's source: count such statements apart). THE CARD IS WHAT COUNTS. Prove the row's statement (the work); the ties are given (YtdahpdnhkflnnaaGreatDoorTie.lean); close each card by the builder's one call (the guide's Derived/Test/ToyasCard.lean, 'card_holds'). Laid BY PROGRAM, IN A SANDBOX (cutbox-door.mjs). By AI agents, Wed Nov 11 2026. No macro, syntax, notation, axiom, sorry.
-/
import Derived.Test.YtdahpdnhkflnnaaGreatDoorRows
import GoSem.ClaimSeven
namespace Go.Proofs.YtdahpdnhkflnnaaGreatDoor
namespace Rows

/-- THE TIED CARD OF 'testbenchtop.TopChoices'. -/
def topChoicesCard : Claim7 := { stood := { row := topChoicesRow, standIns := [], harness := (true, "ac06336d0d8621877620ce4a01035cebc4af21ca596af715a33cbd37ef88a601"), looks := true }, kinds := [], alts := [], laidByText := true, laidKinds := [.data, .data, .data, .widerDeep], laidTests := true, laidLooks := .later }
def TopChoicesCardSaid : Prop := Claim7.holds Tryz.pinned (.plain (OpenSpec.ofChange topChoicesSpec)) topChoicesCard

/-- THE TIED CARD OF 'testbenchtop.TopBounds'. -/
def topBoundsCard : Claim7 := { stood := { row := topBoundsRow, standIns := [], harness := (true, "ac06336d0d8621877620ce4a01035cebc4af21ca596af715a33cbd37ef88a601"), looks := true }, kinds := [], alts := [], laidByText := true, laidKinds := [.data, .data, .data, .widerDeep], laidTests := true, laidLooks := .later }
def TopBoundsCardSaid : Prop := Claim7.holds Tryz.pinned (.plain (OpenSpec.ofChange topBoundsSpec)) topBoundsCard

/-- THE SECOND FORM's CARD OF 'testbenchtop.TopChoices'. -/
def topChoicesUptoCard : Claim7 := { stood := { row := topChoicesUptoRow, standIns := [], harness := (true, "ac06336d0d8621877620ce4a01035cebc4af21ca596af715a33cbd37ef88a601"), looks := true }, kinds := [], alts := [], laidByText := true, laidKinds := [.data, .data, .data, .widerDeep], laidTests := true, laidLooks := .later }
def TopChoicesUptoCardSaid : Prop := Claim7.holds Tryz.pinned (.plain (OpenSpec.upto topChoicesSpec)) topChoicesUptoCard

/-- THE SECOND FORM's CARD OF 'testbenchtop.TopBounds'. -/
def topBoundsUptoCard : Claim7 := { stood := { row := topBoundsUptoRow, standIns := [], harness := (true, "ac06336d0d8621877620ce4a01035cebc4af21ca596af715a33cbd37ef88a601"), looks := true }, kinds := [], alts := [], laidByText := true, laidKinds := [.data, .data, .data, .widerDeep], laidTests := true, laidLooks := .later }
def TopBoundsUptoCardSaid : Prop := Claim7.holds Tryz.pinned (.plain (OpenSpec.upto topBoundsSpec)) topBoundsUptoCard
end Rows
end Go.Proofs.YtdahpdnhkflnnaaGreatDoor
