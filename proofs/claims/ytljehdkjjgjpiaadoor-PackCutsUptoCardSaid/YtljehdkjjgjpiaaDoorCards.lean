/-
  DERIVED. GIVEN WITH THE SEED: THE CARDS: each row of YtljehdkjjgjpiaaDoorRows.lean that lists a variable, with what it lists TIED to the program's text (the seventh form; the later family's looks); each row that meets fmt, with fmt's text TOLD by the authors' own Lean function (tested against real Go, not proved from fmt's source: count such statements apart). THE CARD IS WHAT COUNTS. Prove the row's statement (the work); the ties are given (YtljehdkjjgjpiaaDoorTie.lean); close each card by the builder's one call (the guide's Derived/Test/ToyasCard.lean, 'card_holds'). Laid BY PROGRAM, IN A SANDBOX (cutbox-door.mjs). By AI agents, Wed Nov 11 2026. No macro, syntax, notation, axiom, sorry.
-/
import Derived.Test.YtljehdkjjgjpiaaDoorRows
import GoSem.ClaimSeven
namespace Go.Proofs.YtljehdkjjgjpiaaDoor
namespace Rows

/-- THE TIED CARD OF 'testbenchlaw03.PackTexts'. -/
def packTextsCard : Claim7 := { stood := { row := packTextsRow, standIns := [], harness := (true, "9a4cc8a5c3004652a413e8351f895dd452a806c3443e5e27f0e77011c83ffc4a"), looks := false }, kinds := [], alts := [], laidByText := true, laidKinds := [.data, .data, .data], laidTests := true, laidLooks := .later }
def PackTextsCardSaid : Prop := Claim7.holds Tryd.pinned (.plain (OpenSpec.ofChange packTextsSpec)) packTextsCard

/-- THE TIED CARD OF 'testbenchlaw03.PackNumbers'. -/
def packNumbersCard : Claim7 := { stood := { row := packNumbersRow, standIns := [], harness := (true, "9a4cc8a5c3004652a413e8351f895dd452a806c3443e5e27f0e77011c83ffc4a"), looks := false }, kinds := [], alts := [], laidByText := true, laidKinds := [.data, .data, .data], laidTests := true, laidLooks := .later }
def PackNumbersCardSaid : Prop := Claim7.holds Tryd.pinned (.plain (OpenSpec.ofChange packNumbersSpec)) packNumbersCard

/-- THE TIED CARD OF 'testbenchlaw03.PackLists'. -/
def packListsCard : Claim7 := { stood := { row := packListsRow, standIns := [], harness := (true, "9a4cc8a5c3004652a413e8351f895dd452a806c3443e5e27f0e77011c83ffc4a"), looks := false }, kinds := [], alts := [], laidByText := true, laidKinds := [.data, .data, .data], laidTests := true, laidLooks := .later }
def PackListsCardSaid : Prop := Claim7.holds Tryd.pinned (.plain (OpenSpec.ofChange packListsSpec)) packListsCard

/-- THE TIED CARD OF 'testbenchlaw03.PackPacks'. -/
def packPacksCard : Claim7 := { stood := { row := packPacksRow, standIns := [], harness := (true, "9a4cc8a5c3004652a413e8351f895dd452a806c3443e5e27f0e77011c83ffc4a"), looks := false }, kinds := [], alts := [], laidByText := true, laidKinds := [.data, .data, .data], laidTests := true, laidLooks := .later }
def PackPacksCardSaid : Prop := Claim7.holds Tryd.pinned (.plain (OpenSpec.ofChange packPacksSpec)) packPacksCard

/-- THE TIED CARD OF 'testbenchlaw03.PackRoundTrips'. -/
def packRoundTripsCard : Claim7 := { stood := { row := packRoundTripsRow, standIns := [], harness := (true, "9a4cc8a5c3004652a413e8351f895dd452a806c3443e5e27f0e77011c83ffc4a"), looks := false }, kinds := [], alts := [], laidByText := true, laidKinds := [.data, .data, .data], laidTests := true, laidLooks := .later }
def PackRoundTripsCardSaid : Prop := Claim7.holds Tryd.pinned (.plain (OpenSpec.ofChange packRoundTripsSpec)) packRoundTripsCard

/-- THE TIED CARD OF 'testbenchlaw03.PackCanonical'. -/
def packCanonicalCard : Claim7 := { stood := { row := packCanonicalRow, standIns := [], harness := (true, "9a4cc8a5c3004652a413e8351f895dd452a806c3443e5e27f0e77011c83ffc4a"), looks := false }, kinds := [], alts := [], laidByText := true, laidKinds := [.data, .data, .data], laidTests := true, laidLooks := .later }
def PackCanonicalCardSaid : Prop := Claim7.holds Tryd.pinned (.plain (OpenSpec.ofChange packCanonicalSpec)) packCanonicalCard

/-- THE TIED CARD OF 'testbenchlaw03.PackCuts'. -/
def packCutsCard : Claim7 := { stood := { row := packCutsRow, standIns := [], harness := (true, "9a4cc8a5c3004652a413e8351f895dd452a806c3443e5e27f0e77011c83ffc4a"), looks := false }, kinds := [], alts := [], laidByText := true, laidKinds := [.data, .data, .data], laidTests := true, laidLooks := .later }
def PackCutsCardSaid : Prop := Claim7.holds Tryd.pinned (.plain (OpenSpec.ofChange packCutsSpec)) packCutsCard

/-- THE SECOND FORM's CARD OF 'testbenchlaw03.PackTexts'. -/
def packTextsUptoCard : Claim7 := { stood := { row := packTextsUptoRow, standIns := [], harness := (true, "9a4cc8a5c3004652a413e8351f895dd452a806c3443e5e27f0e77011c83ffc4a"), looks := false }, kinds := [], alts := [], laidByText := true, laidKinds := [.data, .data, .data], laidTests := true, laidLooks := .later }
def PackTextsUptoCardSaid : Prop := Claim7.holds Tryd.pinned (.plain (OpenSpec.upto packTextsSpec)) packTextsUptoCard

/-- THE SECOND FORM's CARD OF 'testbenchlaw03.PackNumbers'. -/
def packNumbersUptoCard : Claim7 := { stood := { row := packNumbersUptoRow, standIns := [], harness := (true, "9a4cc8a5c3004652a413e8351f895dd452a806c3443e5e27f0e77011c83ffc4a"), looks := false }, kinds := [], alts := [], laidByText := true, laidKinds := [.data, .data, .data], laidTests := true, laidLooks := .later }
def PackNumbersUptoCardSaid : Prop := Claim7.holds Tryd.pinned (.plain (OpenSpec.upto packNumbersSpec)) packNumbersUptoCard

/-- THE SECOND FORM's CARD OF 'testbenchlaw03.PackLists'. -/
def packListsUptoCard : Claim7 := { stood := { row := packListsUptoRow, standIns := [], harness := (true, "9a4cc8a5c3004652a413e8351f895dd452a806c3443e5e27f0e77011c83ffc4a"), looks := false }, kinds := [], alts := [], laidByText := true, laidKinds := [.data, .data, .data], laidTests := true, laidLooks := .later }
def PackListsUptoCardSaid : Prop := Claim7.holds Tryd.pinned (.plain (OpenSpec.upto packListsSpec)) packListsUptoCard

/-- THE SECOND FORM's CARD OF 'testbenchlaw03.PackPacks'. -/
def packPacksUptoCard : Claim7 := { stood := { row := packPacksUptoRow, standIns := [], harness := (true, "9a4cc8a5c3004652a413e8351f895dd452a806c3443e5e27f0e77011c83ffc4a"), looks := false }, kinds := [], alts := [], laidByText := true, laidKinds := [.data, .data, .data], laidTests := true, laidLooks := .later }
def PackPacksUptoCardSaid : Prop := Claim7.holds Tryd.pinned (.plain (OpenSpec.upto packPacksSpec)) packPacksUptoCard

/-- THE SECOND FORM's CARD OF 'testbenchlaw03.PackRoundTrips'. -/
def packRoundTripsUptoCard : Claim7 := { stood := { row := packRoundTripsUptoRow, standIns := [], harness := (true, "9a4cc8a5c3004652a413e8351f895dd452a806c3443e5e27f0e77011c83ffc4a"), looks := false }, kinds := [], alts := [], laidByText := true, laidKinds := [.data, .data, .data], laidTests := true, laidLooks := .later }
def PackRoundTripsUptoCardSaid : Prop := Claim7.holds Tryd.pinned (.plain (OpenSpec.upto packRoundTripsSpec)) packRoundTripsUptoCard

/-- THE SECOND FORM's CARD OF 'testbenchlaw03.PackCanonical'. -/
def packCanonicalUptoCard : Claim7 := { stood := { row := packCanonicalUptoRow, standIns := [], harness := (true, "9a4cc8a5c3004652a413e8351f895dd452a806c3443e5e27f0e77011c83ffc4a"), looks := false }, kinds := [], alts := [], laidByText := true, laidKinds := [.data, .data, .data], laidTests := true, laidLooks := .later }
def PackCanonicalUptoCardSaid : Prop := Claim7.holds Tryd.pinned (.plain (OpenSpec.upto packCanonicalSpec)) packCanonicalUptoCard

/-- THE SECOND FORM's CARD OF 'testbenchlaw03.PackCuts'. -/
def packCutsUptoCard : Claim7 := { stood := { row := packCutsUptoRow, standIns := [], harness := (true, "9a4cc8a5c3004652a413e8351f895dd452a806c3443e5e27f0e77011c83ffc4a"), looks := false }, kinds := [], alts := [], laidByText := true, laidKinds := [.data, .data, .data], laidTests := true, laidLooks := .later }
def PackCutsUptoCardSaid : Prop := Claim7.holds Tryd.pinned (.plain (OpenSpec.upto packCutsSpec)) packCutsUptoCard
end Rows
end Go.Proofs.YtljehdkjjgjpiaaDoor
