/-
  DERIVED. GIVEN WITH THE SEED: THE CARDS: each row of YtbaalbmchhgmnaaDoorRows.lean that lists a variable, with what it lists TIED to the program's text (the seventh form; the later family's looks); each row that meets fmt, with fmt's text TOLD by the authors' own Lean function (tested against real Go, not proved from fmt's source: count such statements apart). THE CARD IS WHAT COUNTS. Prove the row's statement (the work); the ties are given (YtbaalbmchhgmnaaDoorTie.lean); close each card by the builder's one call (the guide's Derived/Test/ToyasCard.lean, 'card_holds'). Laid BY PROGRAM, IN A SANDBOX (cutbox-door.mjs). By AI agents, Wed Nov 11 2026. No macro, syntax, notation, axiom, sorry.
-/
import Derived.Test.YtbaalbmchhgmnaaDoorRows
import GoSem.ClaimSeven
namespace Go.Proofs.YtbaalbmchhgmnaaDoor
namespace Rows

/-- THE TIED CARD OF 'testbenchlaw05.RatMakes'. -/
def ratMakesCard : Claim7 := { stood := { row := ratMakesRow, standIns := [], harness := (true, "15881c8e624961c8528498dfbcd7f35a66e31817424cf66d37b8f6a30f0bd1b3"), looks := false }, kinds := [], alts := [], laidByText := true, laidKinds := [.data, .data, .data], laidTests := true, laidLooks := .later }
def RatMakesCardSaid : Prop := Claim7.holds Tryd.pinned (.plain (OpenSpec.ofChange ratMakesSpec)) ratMakesCard

/-- THE TIED CARD OF 'testbenchlaw05.RatChecks'. -/
def ratChecksCard : Claim7 := { stood := { row := ratChecksRow, standIns := [], harness := (true, "15881c8e624961c8528498dfbcd7f35a66e31817424cf66d37b8f6a30f0bd1b3"), looks := false }, kinds := [], alts := [], laidByText := true, laidKinds := [.data, .data, .data], laidTests := true, laidLooks := .later }
def RatChecksCardSaid : Prop := Claim7.holds Tryd.pinned (.plain (OpenSpec.ofChange ratChecksSpec)) ratChecksCard

/-- THE TIED CARD OF 'testbenchlaw05.RatAdds'. -/
def ratAddsCard : Claim7 := { stood := { row := ratAddsRow, standIns := [], harness := (true, "15881c8e624961c8528498dfbcd7f35a66e31817424cf66d37b8f6a30f0bd1b3"), looks := false }, kinds := [], alts := [], laidByText := true, laidKinds := [.data, .data, .data], laidTests := true, laidLooks := .later }
def RatAddsCardSaid : Prop := Claim7.holds Tryd.pinned (.plain (OpenSpec.ofChange ratAddsSpec)) ratAddsCard

/-- THE TIED CARD OF 'testbenchlaw05.RatMuls'. -/
def ratMulsCard : Claim7 := { stood := { row := ratMulsRow, standIns := [], harness := (true, "15881c8e624961c8528498dfbcd7f35a66e31817424cf66d37b8f6a30f0bd1b3"), looks := false }, kinds := [], alts := [], laidByText := true, laidKinds := [.data, .data, .data], laidTests := true, laidLooks := .later }
def RatMulsCardSaid : Prop := Claim7.holds Tryd.pinned (.plain (OpenSpec.ofChange ratMulsSpec)) ratMulsCard

/-- THE TIED CARD OF 'testbenchlaw05.RatField'. -/
def ratFieldCard : Claim7 := { stood := { row := ratFieldRow, standIns := [], harness := (true, "15881c8e624961c8528498dfbcd7f35a66e31817424cf66d37b8f6a30f0bd1b3"), looks := false }, kinds := [], alts := [], laidByText := true, laidKinds := [.data, .data, .data], laidTests := true, laidLooks := .later }
def RatFieldCardSaid : Prop := Claim7.holds Tryd.pinned (.plain (OpenSpec.ofChange ratFieldSpec)) ratFieldCard

/-- THE TIED CARD OF 'testbenchlaw05.RatSums'. -/
def ratSumsCard : Claim7 := { stood := { row := ratSumsRow, standIns := [], harness := (true, "15881c8e624961c8528498dfbcd7f35a66e31817424cf66d37b8f6a30f0bd1b3"), looks := false }, kinds := [], alts := [], laidByText := true, laidKinds := [.data, .data, .data], laidTests := true, laidLooks := .later }
def RatSumsCardSaid : Prop := Claim7.holds Tryd.pinned (.plain (OpenSpec.ofChange ratSumsSpec)) ratSumsCard

/-- THE TIED CARD OF 'testbenchlaw05.RatCompares'. -/
def ratComparesCard : Claim7 := { stood := { row := ratComparesRow, standIns := [], harness := (true, "15881c8e624961c8528498dfbcd7f35a66e31817424cf66d37b8f6a30f0bd1b3"), looks := false }, kinds := [], alts := [], laidByText := true, laidKinds := [.data, .data, .data], laidTests := true, laidLooks := .later }
def RatComparesCardSaid : Prop := Claim7.holds Tryd.pinned (.plain (OpenSpec.ofChange ratComparesSpec)) ratComparesCard

/-- THE TIED CARD OF 'testbenchlaw05.RatFormats'. -/
def ratFormatsCard : Claim7 := { stood := { row := ratFormatsRow, standIns := [], harness := (true, "15881c8e624961c8528498dfbcd7f35a66e31817424cf66d37b8f6a30f0bd1b3"), looks := false }, kinds := [], alts := [], laidByText := true, laidKinds := [.data, .data, .data], laidTests := true, laidLooks := .later }
def RatFormatsCardSaid : Prop := Claim7.holds Tryd.pinned (.plain (OpenSpec.ofChange ratFormatsSpec)) ratFormatsCard

/-- THE TIED CARD OF 'testbenchlaw05.RatParses'. -/
def ratParsesCard : Claim7 := { stood := { row := ratParsesRow, standIns := [], harness := (true, "15881c8e624961c8528498dfbcd7f35a66e31817424cf66d37b8f6a30f0bd1b3"), looks := false }, kinds := [], alts := [], laidByText := true, laidKinds := [.data, .data, .data], laidTests := true, laidLooks := .later }
def RatParsesCardSaid : Prop := Claim7.holds Tryd.pinned (.plain (OpenSpec.ofChange ratParsesSpec)) ratParsesCard

/-- THE SECOND FORM's CARD OF 'testbenchlaw05.RatMakes'. -/
def ratMakesUptoCard : Claim7 := { stood := { row := ratMakesUptoRow, standIns := [], harness := (true, "15881c8e624961c8528498dfbcd7f35a66e31817424cf66d37b8f6a30f0bd1b3"), looks := false }, kinds := [], alts := [], laidByText := true, laidKinds := [.data, .data, .data], laidTests := true, laidLooks := .later }
def RatMakesUptoCardSaid : Prop := Claim7.holds Tryd.pinned (.plain (OpenSpec.upto ratMakesSpec)) ratMakesUptoCard

/-- THE SECOND FORM's CARD OF 'testbenchlaw05.RatChecks'. -/
def ratChecksUptoCard : Claim7 := { stood := { row := ratChecksUptoRow, standIns := [], harness := (true, "15881c8e624961c8528498dfbcd7f35a66e31817424cf66d37b8f6a30f0bd1b3"), looks := false }, kinds := [], alts := [], laidByText := true, laidKinds := [.data, .data, .data], laidTests := true, laidLooks := .later }
def RatChecksUptoCardSaid : Prop := Claim7.holds Tryd.pinned (.plain (OpenSpec.upto ratChecksSpec)) ratChecksUptoCard

/-- THE SECOND FORM's CARD OF 'testbenchlaw05.RatAdds'. -/
def ratAddsUptoCard : Claim7 := { stood := { row := ratAddsUptoRow, standIns := [], harness := (true, "15881c8e624961c8528498dfbcd7f35a66e31817424cf66d37b8f6a30f0bd1b3"), looks := false }, kinds := [], alts := [], laidByText := true, laidKinds := [.data, .data, .data], laidTests := true, laidLooks := .later }
def RatAddsUptoCardSaid : Prop := Claim7.holds Tryd.pinned (.plain (OpenSpec.upto ratAddsSpec)) ratAddsUptoCard

/-- THE SECOND FORM's CARD OF 'testbenchlaw05.RatMuls'. -/
def ratMulsUptoCard : Claim7 := { stood := { row := ratMulsUptoRow, standIns := [], harness := (true, "15881c8e624961c8528498dfbcd7f35a66e31817424cf66d37b8f6a30f0bd1b3"), looks := false }, kinds := [], alts := [], laidByText := true, laidKinds := [.data, .data, .data], laidTests := true, laidLooks := .later }
def RatMulsUptoCardSaid : Prop := Claim7.holds Tryd.pinned (.plain (OpenSpec.upto ratMulsSpec)) ratMulsUptoCard

/-- THE SECOND FORM's CARD OF 'testbenchlaw05.RatField'. -/
def ratFieldUptoCard : Claim7 := { stood := { row := ratFieldUptoRow, standIns := [], harness := (true, "15881c8e624961c8528498dfbcd7f35a66e31817424cf66d37b8f6a30f0bd1b3"), looks := false }, kinds := [], alts := [], laidByText := true, laidKinds := [.data, .data, .data], laidTests := true, laidLooks := .later }
def RatFieldUptoCardSaid : Prop := Claim7.holds Tryd.pinned (.plain (OpenSpec.upto ratFieldSpec)) ratFieldUptoCard

/-- THE SECOND FORM's CARD OF 'testbenchlaw05.RatSums'. -/
def ratSumsUptoCard : Claim7 := { stood := { row := ratSumsUptoRow, standIns := [], harness := (true, "15881c8e624961c8528498dfbcd7f35a66e31817424cf66d37b8f6a30f0bd1b3"), looks := false }, kinds := [], alts := [], laidByText := true, laidKinds := [.data, .data, .data], laidTests := true, laidLooks := .later }
def RatSumsUptoCardSaid : Prop := Claim7.holds Tryd.pinned (.plain (OpenSpec.upto ratSumsSpec)) ratSumsUptoCard

/-- THE SECOND FORM's CARD OF 'testbenchlaw05.RatCompares'. -/
def ratComparesUptoCard : Claim7 := { stood := { row := ratComparesUptoRow, standIns := [], harness := (true, "15881c8e624961c8528498dfbcd7f35a66e31817424cf66d37b8f6a30f0bd1b3"), looks := false }, kinds := [], alts := [], laidByText := true, laidKinds := [.data, .data, .data], laidTests := true, laidLooks := .later }
def RatComparesUptoCardSaid : Prop := Claim7.holds Tryd.pinned (.plain (OpenSpec.upto ratComparesSpec)) ratComparesUptoCard

/-- THE SECOND FORM's CARD OF 'testbenchlaw05.RatFormats'. -/
def ratFormatsUptoCard : Claim7 := { stood := { row := ratFormatsUptoRow, standIns := [], harness := (true, "15881c8e624961c8528498dfbcd7f35a66e31817424cf66d37b8f6a30f0bd1b3"), looks := false }, kinds := [], alts := [], laidByText := true, laidKinds := [.data, .data, .data], laidTests := true, laidLooks := .later }
def RatFormatsUptoCardSaid : Prop := Claim7.holds Tryd.pinned (.plain (OpenSpec.upto ratFormatsSpec)) ratFormatsUptoCard

/-- THE SECOND FORM's CARD OF 'testbenchlaw05.RatParses'. -/
def ratParsesUptoCard : Claim7 := { stood := { row := ratParsesUptoRow, standIns := [], harness := (true, "15881c8e624961c8528498dfbcd7f35a66e31817424cf66d37b8f6a30f0bd1b3"), looks := false }, kinds := [], alts := [], laidByText := true, laidKinds := [.data, .data, .data], laidTests := true, laidLooks := .later }
def RatParsesUptoCardSaid : Prop := Claim7.holds Tryd.pinned (.plain (OpenSpec.upto ratParsesSpec)) ratParsesUptoCard
end Rows
end Go.Proofs.YtbaalbmchhgmnaaDoor
