/-
  DERIVED. GIVEN WITH THE SEED: THE CARDS: each row of YtldafnjbgjagiaaDoorRows.lean that lists a variable, with what it lists TIED to the program's text (the seventh form; the later family's looks); each row that meets fmt, with fmt's text TOLD by the authors' own Lean function (tested against real Go, not proved from fmt's source: count such statements apart). THE CARD IS WHAT COUNTS. Prove the row's statement (the work); the ties are given (YtldafnjbgjagiaaDoorTie.lean); close each card by the builder's one call (the guide's Derived/Test/ToyasCard.lean, 'card_holds'). Laid BY PROGRAM, IN A SANDBOX (cutbox-door.mjs). By AI agents, Wed Nov 11 2026. No macro, syntax, notation, axiom, sorry.
-/
import Derived.Test.YtldafnjbgjagiaaDoorRows
import GoSem.ClaimSeven
namespace Go.Proofs.YtldafnjbgjagiaaDoor
namespace Rows

/-- THE TIED CARD OF 'testbenchlaw52.BoardExpects'. -/
def boardExpectsCard : Claim7 := { stood := { row := boardExpectsRow, standIns := [], harness := (true, "2608e3a4c5330546f15099230ccfcd54b8773050a4db8fcc0cd3b883f009d6bb"), looks := false }, kinds := [], alts := [], laidByText := true, laidKinds := [.data, .data, .data, .widerDeep], laidTests := true, laidLooks := .later }
def BoardExpectsCardSaid : Prop := Claim7.holds Tryd.pinned (.plain (OpenSpec.ofChange boardExpectsSpec)) boardExpectsCard

/-- THE TIED CARD OF 'testbenchlaw52.BoardObserves'. -/
def boardObservesCard : Claim7 := { stood := { row := boardObservesRow, standIns := [], harness := (true, "2608e3a4c5330546f15099230ccfcd54b8773050a4db8fcc0cd3b883f009d6bb"), looks := false }, kinds := [], alts := [], laidByText := true, laidKinds := [.data, .data, .data, .widerDeep], laidTests := true, laidLooks := .later }
def BoardObservesCardSaid : Prop := Claim7.holds Tryd.pinned (.plain (OpenSpec.ofChange boardObservesSpec)) boardObservesCard

/-- THE TIED CARD OF 'testbenchlaw52.BoardRuns'. -/
def boardRunsCard : Claim7 := { stood := { row := boardRunsRow, standIns := [], harness := (true, "2608e3a4c5330546f15099230ccfcd54b8773050a4db8fcc0cd3b883f009d6bb"), looks := false }, kinds := [], alts := [], laidByText := true, laidKinds := [.data, .data, .data, .widerDeep], laidTests := true, laidLooks := .later }
def BoardRunsCardSaid : Prop := Claim7.holds Tryd.pinned (.plain (OpenSpec.ofChange boardRunsSpec)) boardRunsCard

/-- THE TIED CARD OF 'testbenchlaw52.BoardExact'. -/
def boardExactCard : Claim7 := { stood := { row := boardExactRow, standIns := [], harness := (true, "2608e3a4c5330546f15099230ccfcd54b8773050a4db8fcc0cd3b883f009d6bb"), looks := false }, kinds := [], alts := [], laidByText := true, laidKinds := [.data, .data, .data, .widerDeep], laidTests := true, laidLooks := .later }
def BoardExactCardSaid : Prop := Claim7.holds Tryd.pinned (.plain (OpenSpec.ofChange boardExactSpec)) boardExactCard

/-- THE TIED CARD OF 'testbenchlaw52.BoardKeeps'. -/
def boardKeepsCard : Claim7 := { stood := { row := boardKeepsRow, standIns := [], harness := (true, "2608e3a4c5330546f15099230ccfcd54b8773050a4db8fcc0cd3b883f009d6bb"), looks := false }, kinds := [], alts := [], laidByText := true, laidKinds := [.data, .data, .data, .widerDeep], laidTests := true, laidLooks := .later }
def BoardKeepsCardSaid : Prop := Claim7.holds Tryd.pinned (.plain (OpenSpec.ofChange boardKeepsSpec)) boardKeepsCard

/-- THE TIED CARD OF 'testbenchlaw52.BoardShifts'. -/
def boardShiftsCard : Claim7 := { stood := { row := boardShiftsRow, standIns := [], harness := (true, "2608e3a4c5330546f15099230ccfcd54b8773050a4db8fcc0cd3b883f009d6bb"), looks := false }, kinds := [], alts := [], laidByText := true, laidKinds := [.data, .data, .data, .widerDeep], laidTests := true, laidLooks := .later }
def BoardShiftsCardSaid : Prop := Claim7.holds Tryd.pinned (.plain (OpenSpec.ofChange boardShiftsSpec)) boardShiftsCard

/-- THE SECOND FORM's CARD OF 'testbenchlaw52.BoardExpects'. -/
def boardExpectsUptoCard : Claim7 := { stood := { row := boardExpectsUptoRow, standIns := [], harness := (true, "2608e3a4c5330546f15099230ccfcd54b8773050a4db8fcc0cd3b883f009d6bb"), looks := false }, kinds := [], alts := [], laidByText := true, laidKinds := [.data, .data, .data, .widerDeep], laidTests := true, laidLooks := .later }
def BoardExpectsUptoCardSaid : Prop := Claim7.holds Tryd.pinned (.plain (OpenSpec.upto boardExpectsSpec)) boardExpectsUptoCard

/-- THE SECOND FORM's CARD OF 'testbenchlaw52.BoardObserves'. -/
def boardObservesUptoCard : Claim7 := { stood := { row := boardObservesUptoRow, standIns := [], harness := (true, "2608e3a4c5330546f15099230ccfcd54b8773050a4db8fcc0cd3b883f009d6bb"), looks := false }, kinds := [], alts := [], laidByText := true, laidKinds := [.data, .data, .data, .widerDeep], laidTests := true, laidLooks := .later }
def BoardObservesUptoCardSaid : Prop := Claim7.holds Tryd.pinned (.plain (OpenSpec.upto boardObservesSpec)) boardObservesUptoCard

/-- THE SECOND FORM's CARD OF 'testbenchlaw52.BoardRuns'. -/
def boardRunsUptoCard : Claim7 := { stood := { row := boardRunsUptoRow, standIns := [], harness := (true, "2608e3a4c5330546f15099230ccfcd54b8773050a4db8fcc0cd3b883f009d6bb"), looks := false }, kinds := [], alts := [], laidByText := true, laidKinds := [.data, .data, .data, .widerDeep], laidTests := true, laidLooks := .later }
def BoardRunsUptoCardSaid : Prop := Claim7.holds Tryd.pinned (.plain (OpenSpec.upto boardRunsSpec)) boardRunsUptoCard

/-- THE SECOND FORM's CARD OF 'testbenchlaw52.BoardExact'. -/
def boardExactUptoCard : Claim7 := { stood := { row := boardExactUptoRow, standIns := [], harness := (true, "2608e3a4c5330546f15099230ccfcd54b8773050a4db8fcc0cd3b883f009d6bb"), looks := false }, kinds := [], alts := [], laidByText := true, laidKinds := [.data, .data, .data, .widerDeep], laidTests := true, laidLooks := .later }
def BoardExactUptoCardSaid : Prop := Claim7.holds Tryd.pinned (.plain (OpenSpec.upto boardExactSpec)) boardExactUptoCard

/-- THE SECOND FORM's CARD OF 'testbenchlaw52.BoardKeeps'. -/
def boardKeepsUptoCard : Claim7 := { stood := { row := boardKeepsUptoRow, standIns := [], harness := (true, "2608e3a4c5330546f15099230ccfcd54b8773050a4db8fcc0cd3b883f009d6bb"), looks := false }, kinds := [], alts := [], laidByText := true, laidKinds := [.data, .data, .data, .widerDeep], laidTests := true, laidLooks := .later }
def BoardKeepsUptoCardSaid : Prop := Claim7.holds Tryd.pinned (.plain (OpenSpec.upto boardKeepsSpec)) boardKeepsUptoCard

/-- THE SECOND FORM's CARD OF 'testbenchlaw52.BoardShifts'. -/
def boardShiftsUptoCard : Claim7 := { stood := { row := boardShiftsUptoRow, standIns := [], harness := (true, "2608e3a4c5330546f15099230ccfcd54b8773050a4db8fcc0cd3b883f009d6bb"), looks := false }, kinds := [], alts := [], laidByText := true, laidKinds := [.data, .data, .data, .widerDeep], laidTests := true, laidLooks := .later }
def BoardShiftsUptoCardSaid : Prop := Claim7.holds Tryd.pinned (.plain (OpenSpec.upto boardShiftsSpec)) boardShiftsUptoCard
end Rows
end Go.Proofs.YtldafnjbgjagiaaDoor
