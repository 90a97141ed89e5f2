/-
  DERIVED. GIVEN WITH THE SEED: THE CARDS: each row of YtdnfeibjdjcomaaDoorRows.lean that lists a variable, with what it lists TIED to the program's text (the seventh form; the later family's looks); each row that meets fmt, with fmt's text TOLD by the authors' own Lean function (tested against real Go, not proved from fmt's source: count such statements apart). THE CARD IS WHAT COUNTS. Prove the row's statement (the work); the ties are given (YtdnfeibjdjcomaaDoorTie.lean); close each card by the builder's one call (the guide's Derived/Test/ToyasCard.lean, 'card_holds'). Laid BY PROGRAM, IN A SANDBOX (cutbox-door.mjs). By AI agents, Wed Nov 11 2026. No macro, syntax, notation, axiom, sorry.
-/
import Derived.Test.YtdnfeibjdjcomaaDoorRows
import GoSem.ClaimSeven
namespace Go.Proofs.YtdnfeibjdjcomaaDoor
namespace Rows

/-- THE TIED CARD OF 'testbenchlaw01.NumQuotients'. -/
def numQuotientsCard : Claim7 := { stood := { row := numQuotientsRow, standIns := [], harness := (true, "f1d473b0487ec0aacb5b9b3b2877e48a869cfbf08c767da0678db7bf3979d28b"), looks := false }, kinds := [], alts := [], laidByText := true, laidKinds := [.data, .data, .data], laidTests := true, laidLooks := .later }
def NumQuotientsCardSaid : Prop := Claim7.holds Tryd.pinned (.plain (OpenSpec.ofChange numQuotientsSpec)) numQuotientsCard

/-- THE TIED CARD OF 'testbenchlaw01.NumDivides'. -/
def numDividesCard : Claim7 := { stood := { row := numDividesRow, standIns := [], harness := (true, "f1d473b0487ec0aacb5b9b3b2877e48a869cfbf08c767da0678db7bf3979d28b"), looks := false }, kinds := [], alts := [], laidByText := true, laidKinds := [.data, .data, .data], laidTests := true, laidLooks := .later }
def NumDividesCardSaid : Prop := Claim7.holds Tryd.pinned (.plain (OpenSpec.ofChange numDividesSpec)) numDividesCard

/-- THE TIED CARD OF 'testbenchlaw01.NumPowers'. -/
def numPowersCard : Claim7 := { stood := { row := numPowersRow, standIns := [], harness := (true, "f1d473b0487ec0aacb5b9b3b2877e48a869cfbf08c767da0678db7bf3979d28b"), looks := false }, kinds := [], alts := [], laidByText := true, laidKinds := [.data, .data, .data], laidTests := true, laidLooks := .later }
def NumPowersCardSaid : Prop := Claim7.holds Tryd.pinned (.plain (OpenSpec.ofChange numPowersSpec)) numPowersCard

/-- THE TIED CARD OF 'testbenchlaw01.NumDivisors'. -/
def numDivisorsCard : Claim7 := { stood := { row := numDivisorsRow, standIns := [], harness := (true, "f1d473b0487ec0aacb5b9b3b2877e48a869cfbf08c767da0678db7bf3979d28b"), looks := false }, kinds := [], alts := [], laidByText := true, laidKinds := [.data, .data, .data], laidTests := true, laidLooks := .later }
def NumDivisorsCardSaid : Prop := Claim7.holds Tryd.pinned (.plain (OpenSpec.ofChange numDivisorsSpec)) numDivisorsCard

/-- THE TIED CARD OF 'testbenchlaw01.NumMultiples'. -/
def numMultiplesCard : Claim7 := { stood := { row := numMultiplesRow, standIns := [], harness := (true, "f1d473b0487ec0aacb5b9b3b2877e48a869cfbf08c767da0678db7bf3979d28b"), looks := false }, kinds := [], alts := [], laidByText := true, laidKinds := [.data, .data, .data], laidTests := true, laidLooks := .later }
def NumMultiplesCardSaid : Prop := Claim7.holds Tryd.pinned (.plain (OpenSpec.ofChange numMultiplesSpec)) numMultiplesCard

/-- THE TIED CARD OF 'testbenchlaw01.NumTexts'. -/
def numTextsCard : Claim7 := { stood := { row := numTextsRow, standIns := [], harness := (true, "f1d473b0487ec0aacb5b9b3b2877e48a869cfbf08c767da0678db7bf3979d28b"), looks := false }, kinds := [], alts := [], laidByText := true, laidKinds := [.data, .data, .data], laidTests := true, laidLooks := .later }
def NumTextsCardSaid : Prop := Claim7.holds Tryd.pinned (.plain (OpenSpec.ofChange numTextsSpec)) numTextsCard

/-- THE TIED CARD OF 'testbenchlaw01.NumSums'. -/
def numSumsCard : Claim7 := { stood := { row := numSumsRow, standIns := [], harness := (true, "f1d473b0487ec0aacb5b9b3b2877e48a869cfbf08c767da0678db7bf3979d28b"), looks := false }, kinds := [], alts := [], laidByText := true, laidKinds := [.data, .data, .data], laidTests := true, laidLooks := .later }
def NumSumsCardSaid : Prop := Claim7.holds Tryd.pinned (.plain (OpenSpec.ofChange numSumsSpec)) numSumsCard

/-- THE SECOND FORM's CARD OF 'testbenchlaw01.NumQuotients'. -/
def numQuotientsUptoCard : Claim7 := { stood := { row := numQuotientsUptoRow, standIns := [], harness := (true, "f1d473b0487ec0aacb5b9b3b2877e48a869cfbf08c767da0678db7bf3979d28b"), looks := false }, kinds := [], alts := [], laidByText := true, laidKinds := [.data, .data, .data], laidTests := true, laidLooks := .later }
def NumQuotientsUptoCardSaid : Prop := Claim7.holds Tryd.pinned (.plain (OpenSpec.upto numQuotientsSpec)) numQuotientsUptoCard

/-- THE SECOND FORM's CARD OF 'testbenchlaw01.NumDivides'. -/
def numDividesUptoCard : Claim7 := { stood := { row := numDividesUptoRow, standIns := [], harness := (true, "f1d473b0487ec0aacb5b9b3b2877e48a869cfbf08c767da0678db7bf3979d28b"), looks := false }, kinds := [], alts := [], laidByText := true, laidKinds := [.data, .data, .data], laidTests := true, laidLooks := .later }
def NumDividesUptoCardSaid : Prop := Claim7.holds Tryd.pinned (.plain (OpenSpec.upto numDividesSpec)) numDividesUptoCard

/-- THE SECOND FORM's CARD OF 'testbenchlaw01.NumPowers'. -/
def numPowersUptoCard : Claim7 := { stood := { row := numPowersUptoRow, standIns := [], harness := (true, "f1d473b0487ec0aacb5b9b3b2877e48a869cfbf08c767da0678db7bf3979d28b"), looks := false }, kinds := [], alts := [], laidByText := true, laidKinds := [.data, .data, .data], laidTests := true, laidLooks := .later }
def NumPowersUptoCardSaid : Prop := Claim7.holds Tryd.pinned (.plain (OpenSpec.upto numPowersSpec)) numPowersUptoCard

/-- THE SECOND FORM's CARD OF 'testbenchlaw01.NumDivisors'. -/
def numDivisorsUptoCard : Claim7 := { stood := { row := numDivisorsUptoRow, standIns := [], harness := (true, "f1d473b0487ec0aacb5b9b3b2877e48a869cfbf08c767da0678db7bf3979d28b"), looks := false }, kinds := [], alts := [], laidByText := true, laidKinds := [.data, .data, .data], laidTests := true, laidLooks := .later }
def NumDivisorsUptoCardSaid : Prop := Claim7.holds Tryd.pinned (.plain (OpenSpec.upto numDivisorsSpec)) numDivisorsUptoCard

/-- THE SECOND FORM's CARD OF 'testbenchlaw01.NumMultiples'. -/
def numMultiplesUptoCard : Claim7 := { stood := { row := numMultiplesUptoRow, standIns := [], harness := (true, "f1d473b0487ec0aacb5b9b3b2877e48a869cfbf08c767da0678db7bf3979d28b"), looks := false }, kinds := [], alts := [], laidByText := true, laidKinds := [.data, .data, .data], laidTests := true, laidLooks := .later }
def NumMultiplesUptoCardSaid : Prop := Claim7.holds Tryd.pinned (.plain (OpenSpec.upto numMultiplesSpec)) numMultiplesUptoCard

/-- THE SECOND FORM's CARD OF 'testbenchlaw01.NumTexts'. -/
def numTextsUptoCard : Claim7 := { stood := { row := numTextsUptoRow, standIns := [], harness := (true, "f1d473b0487ec0aacb5b9b3b2877e48a869cfbf08c767da0678db7bf3979d28b"), looks := false }, kinds := [], alts := [], laidByText := true, laidKinds := [.data, .data, .data], laidTests := true, laidLooks := .later }
def NumTextsUptoCardSaid : Prop := Claim7.holds Tryd.pinned (.plain (OpenSpec.upto numTextsSpec)) numTextsUptoCard

/-- THE SECOND FORM's CARD OF 'testbenchlaw01.NumSums'. -/
def numSumsUptoCard : Claim7 := { stood := { row := numSumsUptoRow, standIns := [], harness := (true, "f1d473b0487ec0aacb5b9b3b2877e48a869cfbf08c767da0678db7bf3979d28b"), looks := false }, kinds := [], alts := [], laidByText := true, laidKinds := [.data, .data, .data], laidTests := true, laidLooks := .later }
def NumSumsUptoCardSaid : Prop := Claim7.holds Tryd.pinned (.plain (OpenSpec.upto numSumsSpec)) numSumsUptoCard
end Rows
end Go.Proofs.YtdnfeibjdjcomaaDoor
