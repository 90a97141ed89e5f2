/-
  DERIVED. GIVEN WITH THE SEED: THE CARDS: each row of YtbgficaboolgiaaDoorRows.lean that lists a variable, with what it lists TIED to the program's text (the seventh form; the later family's looks); each row that meets fmt, with fmt's text TOLD by the authors' own Lean function (tested against real Go, not proved from fmt's source: count such statements apart). THE CARD IS WHAT COUNTS. Prove the row's statement (the work); the ties are given (YtbgficaboolgiaaDoorTie.lean); close each card by the builder's one call (the guide's Derived/Test/ToyasCard.lean, 'card_holds'). Laid BY PROGRAM, IN A SANDBOX (cutbox-door.mjs). By AI agents, Wed Nov 11 2026. No macro, syntax, notation, axiom, sorry.
-/
import Derived.Test.YtbgficaboolgiaaDoorRows
import GoSem.ClaimSeven
namespace Go.Proofs.YtbgficaboolgiaaDoor
namespace Rows

/-- THE TIED CARD OF 'testbenchlaw56.StoreEncodes'. -/
def storeEncodesCard : Claim7 := { stood := { row := storeEncodesRow, standIns := [], harness := (true, "212e181020b17c919fdbc5bebd714a7d0c42abb17c76fb8017f3372e76e029e6"), looks := false }, kinds := [], alts := [], laidByText := true, laidKinds := [.data, .data, .data], laidTests := true, laidLooks := .later }
def StoreEncodesCardSaid : Prop := Claim7.holds Tryd.pinned (.plain (OpenSpec.ofChange storeEncodesSpec)) storeEncodesCard

/-- THE TIED CARD OF 'testbenchlaw56.StoreDecodes'. -/
def storeDecodesCard : Claim7 := { stood := { row := storeDecodesRow, standIns := [], harness := (true, "212e181020b17c919fdbc5bebd714a7d0c42abb17c76fb8017f3372e76e029e6"), looks := false }, kinds := [], alts := [], laidByText := true, laidKinds := [.data, .data, .data], laidTests := true, laidLooks := .later }
def StoreDecodesCardSaid : Prop := Claim7.holds Tryd.pinned (.plain (OpenSpec.ofChange storeDecodesSpec)) storeDecodesCard

/-- THE TIED CARD OF 'testbenchlaw56.StoreCompares'. -/
def storeComparesCard : Claim7 := { stood := { row := storeComparesRow, standIns := [], harness := (true, "212e181020b17c919fdbc5bebd714a7d0c42abb17c76fb8017f3372e76e029e6"), looks := false }, kinds := [], alts := [], laidByText := true, laidKinds := [.data, .data, .data], laidTests := true, laidLooks := .later }
def StoreComparesCardSaid : Prop := Claim7.holds Tryd.pinned (.plain (OpenSpec.ofChange storeComparesSpec)) storeComparesCard

/-- THE TIED CARD OF 'testbenchlaw56.StoreDamage'. -/
def storeDamageCard : Claim7 := { stood := { row := storeDamageRow, standIns := [], harness := (true, "212e181020b17c919fdbc5bebd714a7d0c42abb17c76fb8017f3372e76e029e6"), looks := false }, kinds := [], alts := [], laidByText := true, laidKinds := [.data, .data, .data], laidTests := true, laidLooks := .later }
def StoreDamageCardSaid : Prop := Claim7.holds Tryd.pinned (.plain (OpenSpec.ofChange storeDamageSpec)) storeDamageCard

/-- THE TIED CARD OF 'testbenchlaw56.StoreDivides'. -/
def storeDividesCard : Claim7 := { stood := { row := storeDividesRow, standIns := [], harness := (true, "212e181020b17c919fdbc5bebd714a7d0c42abb17c76fb8017f3372e76e029e6"), looks := false }, kinds := [], alts := [], laidByText := true, laidKinds := [.data, .data, .data], laidTests := true, laidLooks := .later }
def StoreDividesCardSaid : Prop := Claim7.holds Tryd.pinned (.plain (OpenSpec.ofChange storeDividesSpec)) storeDividesCard

/-- THE TIED CARD OF 'testbenchlaw56.StoreFinds'. -/
def storeFindsCard : Claim7 := { stood := { row := storeFindsRow, standIns := [], harness := (true, "212e181020b17c919fdbc5bebd714a7d0c42abb17c76fb8017f3372e76e029e6"), looks := false }, kinds := [], alts := [], laidByText := true, laidKinds := [.data, .data, .data], laidTests := true, laidLooks := .later }
def StoreFindsCardSaid : Prop := Claim7.holds Tryd.pinned (.plain (OpenSpec.ofChange storeFindsSpec)) storeFindsCard

/-- THE TIED CARD OF 'testbenchlaw56.StoreRoundTrips'. -/
def storeRoundTripsCard : Claim7 := { stood := { row := storeRoundTripsRow, standIns := [], harness := (true, "212e181020b17c919fdbc5bebd714a7d0c42abb17c76fb8017f3372e76e029e6"), looks := false }, kinds := [], alts := [], laidByText := true, laidKinds := [.data, .data, .data], laidTests := true, laidLooks := .later }
def StoreRoundTripsCardSaid : Prop := Claim7.holds Tryd.pinned (.plain (OpenSpec.ofChange storeRoundTripsSpec)) storeRoundTripsCard

/-- THE SECOND FORM's CARD OF 'testbenchlaw56.StoreEncodes'. -/
def storeEncodesUptoCard : Claim7 := { stood := { row := storeEncodesUptoRow, standIns := [], harness := (true, "212e181020b17c919fdbc5bebd714a7d0c42abb17c76fb8017f3372e76e029e6"), looks := false }, kinds := [], alts := [], laidByText := true, laidKinds := [.data, .data, .data], laidTests := true, laidLooks := .later }
def StoreEncodesUptoCardSaid : Prop := Claim7.holds Tryd.pinned (.plain (OpenSpec.upto storeEncodesSpec)) storeEncodesUptoCard

/-- THE SECOND FORM's CARD OF 'testbenchlaw56.StoreDecodes'. -/
def storeDecodesUptoCard : Claim7 := { stood := { row := storeDecodesUptoRow, standIns := [], harness := (true, "212e181020b17c919fdbc5bebd714a7d0c42abb17c76fb8017f3372e76e029e6"), looks := false }, kinds := [], alts := [], laidByText := true, laidKinds := [.data, .data, .data], laidTests := true, laidLooks := .later }
def StoreDecodesUptoCardSaid : Prop := Claim7.holds Tryd.pinned (.plain (OpenSpec.upto storeDecodesSpec)) storeDecodesUptoCard

/-- THE SECOND FORM's CARD OF 'testbenchlaw56.StoreCompares'. -/
def storeComparesUptoCard : Claim7 := { stood := { row := storeComparesUptoRow, standIns := [], harness := (true, "212e181020b17c919fdbc5bebd714a7d0c42abb17c76fb8017f3372e76e029e6"), looks := false }, kinds := [], alts := [], laidByText := true, laidKinds := [.data, .data, .data], laidTests := true, laidLooks := .later }
def StoreComparesUptoCardSaid : Prop := Claim7.holds Tryd.pinned (.plain (OpenSpec.upto storeComparesSpec)) storeComparesUptoCard

/-- THE SECOND FORM's CARD OF 'testbenchlaw56.StoreDamage'. -/
def storeDamageUptoCard : Claim7 := { stood := { row := storeDamageUptoRow, standIns := [], harness := (true, "212e181020b17c919fdbc5bebd714a7d0c42abb17c76fb8017f3372e76e029e6"), looks := false }, kinds := [], alts := [], laidByText := true, laidKinds := [.data, .data, .data], laidTests := true, laidLooks := .later }
def StoreDamageUptoCardSaid : Prop := Claim7.holds Tryd.pinned (.plain (OpenSpec.upto storeDamageSpec)) storeDamageUptoCard

/-- THE SECOND FORM's CARD OF 'testbenchlaw56.StoreDivides'. -/
def storeDividesUptoCard : Claim7 := { stood := { row := storeDividesUptoRow, standIns := [], harness := (true, "212e181020b17c919fdbc5bebd714a7d0c42abb17c76fb8017f3372e76e029e6"), looks := false }, kinds := [], alts := [], laidByText := true, laidKinds := [.data, .data, .data], laidTests := true, laidLooks := .later }
def StoreDividesUptoCardSaid : Prop := Claim7.holds Tryd.pinned (.plain (OpenSpec.upto storeDividesSpec)) storeDividesUptoCard

/-- THE SECOND FORM's CARD OF 'testbenchlaw56.StoreFinds'. -/
def storeFindsUptoCard : Claim7 := { stood := { row := storeFindsUptoRow, standIns := [], harness := (true, "212e181020b17c919fdbc5bebd714a7d0c42abb17c76fb8017f3372e76e029e6"), looks := false }, kinds := [], alts := [], laidByText := true, laidKinds := [.data, .data, .data], laidTests := true, laidLooks := .later }
def StoreFindsUptoCardSaid : Prop := Claim7.holds Tryd.pinned (.plain (OpenSpec.upto storeFindsSpec)) storeFindsUptoCard

/-- THE SECOND FORM's CARD OF 'testbenchlaw56.StoreRoundTrips'. -/
def storeRoundTripsUptoCard : Claim7 := { stood := { row := storeRoundTripsUptoRow, standIns := [], harness := (true, "212e181020b17c919fdbc5bebd714a7d0c42abb17c76fb8017f3372e76e029e6"), looks := false }, kinds := [], alts := [], laidByText := true, laidKinds := [.data, .data, .data], laidTests := true, laidLooks := .later }
def StoreRoundTripsUptoCardSaid : Prop := Claim7.holds Tryd.pinned (.plain (OpenSpec.upto storeRoundTripsSpec)) storeRoundTripsUptoCard
end Rows
end Go.Proofs.YtbgficaboolgiaaDoor
