/-
  DERIVED. GIVEN WITH THE SEED: THE CARDS: each row of YtbjcbndmafddoaaDoorRows.lean that lists a variable, with what it lists TIED to the program's text (the seventh form; the later family's looks); each row that meets fmt, with fmt's text TOLD by the authors' own Lean function (tested against real Go, not proved from fmt's source: count such statements apart). THE CARD IS WHAT COUNTS. Prove the row's statement (the work); the ties are given (YtbjcbndmafddoaaDoorTie.lean); close each card by the builder's one call (the guide's Derived/Test/ToyasCard.lean, 'card_holds'). Laid BY PROGRAM, IN A SANDBOX (cutbox-door.mjs). By AI agents, Wed Nov 11 2026. No macro, syntax, notation, axiom, sorry.
-/
import Derived.Test.YtbjcbndmafddoaaDoorRows
import GoSem.ClaimSeven
namespace Go.Proofs.YtbjcbndmafddoaaDoor
namespace Rows

/-- THE TIED CARD OF 'testbenchlaw26.TxnOrders'. -/
def txnOrdersCard : Claim7 := { stood := { row := txnOrdersRow, standIns := [], harness := (true, "a224bba35ecaac08f14f254ef02500052b60235a78d62b80663f6c5c1224fb07"), looks := false }, kinds := [], alts := [], laidByText := true, laidKinds := [.data, .data, .data, .data, .widerDeep, .pinned], laidTests := true, laidLooks := .later }
def TxnOrdersCardSaid : Prop := Claim7.holds Tryd.pinned (.plain (OpenSpec.ofChange txnOrdersSpec)) txnOrdersCard

/-- THE TIED CARD OF 'testbenchlaw26.TxnParses'. -/
def txnParsesCard : Claim7 := { stood := { row := txnParsesRow, standIns := [], harness := (true, "a224bba35ecaac08f14f254ef02500052b60235a78d62b80663f6c5c1224fb07"), looks := false }, kinds := [], alts := [], laidByText := true, laidKinds := [.data, .data, .data, .data, .widerDeep, .pinned], laidTests := true, laidLooks := .later }
def TxnParsesCardSaid : Prop := Claim7.holds Tryd.pinned (.plain (OpenSpec.ofChange txnParsesSpec)) txnParsesCard

/-- THE TIED CARD OF 'testbenchlaw26.TxnReads'. -/
def txnReadsCard : Claim7 := { stood := { row := txnReadsRow, standIns := [], harness := (true, "a224bba35ecaac08f14f254ef02500052b60235a78d62b80663f6c5c1224fb07"), looks := false }, kinds := [], alts := [], laidByText := true, laidKinds := [.data, .data, .data, .data, .widerDeep, .pinned], laidTests := true, laidLooks := .later }
def TxnReadsCardSaid : Prop := Claim7.holds Tryd.pinned (.plain (OpenSpec.ofChange txnReadsSpec)) txnReadsCard

/-- THE TIED CARD OF 'testbenchlaw26.TxnDiffers'. -/
def txnDiffersCard : Claim7 := { stood := { row := txnDiffersRow, standIns := [], harness := (true, "a224bba35ecaac08f14f254ef02500052b60235a78d62b80663f6c5c1224fb07"), looks := false }, kinds := [], alts := [], laidByText := true, laidKinds := [.data, .data, .data, .data, .widerDeep, .pinned], laidTests := true, laidLooks := .later }
def TxnDiffersCardSaid : Prop := Claim7.holds Tryd.pinned (.plain (OpenSpec.ofChange txnDiffersSpec)) txnDiffersCard

/-- THE TIED CARD OF 'testbenchlaw26.TxnSets'. -/
def txnSetsCard : Claim7 := { stood := { row := txnSetsRow, standIns := [], harness := (true, "a224bba35ecaac08f14f254ef02500052b60235a78d62b80663f6c5c1224fb07"), looks := false }, kinds := [], alts := [], laidByText := true, laidKinds := [.data, .data, .data, .data, .widerDeep, .pinned], laidTests := true, laidLooks := .later }
def TxnSetsCardSaid : Prop := Claim7.holds Tryd.pinned (.plain (OpenSpec.ofChange txnSetsSpec)) txnSetsCard

/-- THE TIED CARD OF 'testbenchlaw26.TxnUnpacks'. -/
def txnUnpacksCard : Claim7 := { stood := { row := txnUnpacksRow, standIns := [], harness := (true, "a224bba35ecaac08f14f254ef02500052b60235a78d62b80663f6c5c1224fb07"), looks := false }, kinds := [], alts := [], laidByText := true, laidKinds := [.data, .data, .data, .data, .widerDeep, .pinned], laidTests := true, laidLooks := .later }
def TxnUnpacksCardSaid : Prop := Claim7.holds Tryd.pinned (.plain (OpenSpec.ofChange txnUnpacksSpec)) txnUnpacksCard

/-- THE SECOND FORM's CARD OF 'testbenchlaw26.TxnOrders'. -/
def txnOrdersUptoCard : Claim7 := { stood := { row := txnOrdersUptoRow, standIns := [], harness := (true, "a224bba35ecaac08f14f254ef02500052b60235a78d62b80663f6c5c1224fb07"), looks := false }, kinds := [], alts := [], laidByText := true, laidKinds := [.data, .data, .data, .data, .widerDeep, .pinned], laidTests := true, laidLooks := .later }
def TxnOrdersUptoCardSaid : Prop := Claim7.holds Tryd.pinned (.plain (OpenSpec.upto txnOrdersSpec)) txnOrdersUptoCard

/-- THE SECOND FORM's CARD OF 'testbenchlaw26.TxnParses'. -/
def txnParsesUptoCard : Claim7 := { stood := { row := txnParsesUptoRow, standIns := [], harness := (true, "a224bba35ecaac08f14f254ef02500052b60235a78d62b80663f6c5c1224fb07"), looks := false }, kinds := [], alts := [], laidByText := true, laidKinds := [.data, .data, .data, .data, .widerDeep, .pinned], laidTests := true, laidLooks := .later }
def TxnParsesUptoCardSaid : Prop := Claim7.holds Tryd.pinned (.plain (OpenSpec.upto txnParsesSpec)) txnParsesUptoCard

/-- THE SECOND FORM's CARD OF 'testbenchlaw26.TxnReads'. -/
def txnReadsUptoCard : Claim7 := { stood := { row := txnReadsUptoRow, standIns := [], harness := (true, "a224bba35ecaac08f14f254ef02500052b60235a78d62b80663f6c5c1224fb07"), looks := false }, kinds := [], alts := [], laidByText := true, laidKinds := [.data, .data, .data, .data, .widerDeep, .pinned], laidTests := true, laidLooks := .later }
def TxnReadsUptoCardSaid : Prop := Claim7.holds Tryd.pinned (.plain (OpenSpec.upto txnReadsSpec)) txnReadsUptoCard

/-- THE SECOND FORM's CARD OF 'testbenchlaw26.TxnDiffers'. -/
def txnDiffersUptoCard : Claim7 := { stood := { row := txnDiffersUptoRow, standIns := [], harness := (true, "a224bba35ecaac08f14f254ef02500052b60235a78d62b80663f6c5c1224fb07"), looks := false }, kinds := [], alts := [], laidByText := true, laidKinds := [.data, .data, .data, .data, .widerDeep, .pinned], laidTests := true, laidLooks := .later }
def TxnDiffersUptoCardSaid : Prop := Claim7.holds Tryd.pinned (.plain (OpenSpec.upto txnDiffersSpec)) txnDiffersUptoCard

/-- THE SECOND FORM's CARD OF 'testbenchlaw26.TxnSets'. -/
def txnSetsUptoCard : Claim7 := { stood := { row := txnSetsUptoRow, standIns := [], harness := (true, "a224bba35ecaac08f14f254ef02500052b60235a78d62b80663f6c5c1224fb07"), looks := false }, kinds := [], alts := [], laidByText := true, laidKinds := [.data, .data, .data, .data, .widerDeep, .pinned], laidTests := true, laidLooks := .later }
def TxnSetsUptoCardSaid : Prop := Claim7.holds Tryd.pinned (.plain (OpenSpec.upto txnSetsSpec)) txnSetsUptoCard

/-- THE SECOND FORM's CARD OF 'testbenchlaw26.TxnUnpacks'. -/
def txnUnpacksUptoCard : Claim7 := { stood := { row := txnUnpacksUptoRow, standIns := [], harness := (true, "a224bba35ecaac08f14f254ef02500052b60235a78d62b80663f6c5c1224fb07"), looks := false }, kinds := [], alts := [], laidByText := true, laidKinds := [.data, .data, .data, .data, .widerDeep, .pinned], laidTests := true, laidLooks := .later }
def TxnUnpacksUptoCardSaid : Prop := Claim7.holds Tryd.pinned (.plain (OpenSpec.upto txnUnpacksSpec)) txnUnpacksUptoCard
end Rows
end Go.Proofs.YtbjcbndmafddoaaDoor
