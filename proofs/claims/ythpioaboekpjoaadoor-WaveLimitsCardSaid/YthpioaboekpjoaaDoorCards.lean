/-
  DERIVED. GIVEN WITH THE SEED: THE CARDS: each row of YthpioaboekpjoaaDoorRows.lean that lists a variable, with what it lists TIED to the program's text (the seventh form; the later family's looks); each row that meets fmt, with fmt's text TOLD by the authors' own Lean function (tested against real Go, not proved from fmt's source: count such statements apart). THE CARD IS WHAT COUNTS. Prove the row's statement (the work); the ties are given (YthpioaboekpjoaaDoorTie.lean); close each card by the builder's one call (the guide's Derived/Test/ToyasCard.lean, 'card_holds'). Laid BY PROGRAM, IN A SANDBOX (cutbox-door.mjs). By AI agents, Wed Nov 11 2026. No macro, syntax, notation, axiom, sorry.
-/
import Derived.Test.YthpioaboekpjoaaDoorRows
import GoSem.ClaimSeven
namespace Go.Proofs.YthpioaboekpjoaaDoor
namespace Rows

/-- THE TIED CARD OF 'testbenchlaw35.WaveParses'. -/
def waveParsesCard : Claim7 := { stood := { row := waveParsesRow, standIns := [], harness := (true, "2d53b76c0cef273488e9d7e84736d9bb8ad1094f4581b117ffbaccb94fcd6ec1"), looks := false }, kinds := [], alts := [], laidByText := true, laidKinds := [.data, .data, .data, .data, .widerDeep, .pinned], laidTests := true, laidLooks := .later }
def WaveParsesCardSaid : Prop := Claim7.holds Tryd.pinned (.plain (OpenSpec.ofChange waveParsesSpec)) waveParsesCard

/-- THE TIED CARD OF 'testbenchlaw35.WaveLimits'. -/
def waveLimitsCard : Claim7 := { stood := { row := waveLimitsRow, standIns := [], harness := (true, "2d53b76c0cef273488e9d7e84736d9bb8ad1094f4581b117ffbaccb94fcd6ec1"), looks := false }, kinds := [], alts := [], laidByText := true, laidKinds := [.data, .data, .data, .data, .widerDeep, .pinned], laidTests := true, laidLooks := .later }
def WaveLimitsCardSaid : Prop := Claim7.holds Tryd.pinned (.plain (OpenSpec.ofChange waveLimitsSpec)) waveLimitsCard

/-- THE TIED CARD OF 'testbenchlaw35.WaveRoundTrips'. -/
def waveRoundTripsCard : Claim7 := { stood := { row := waveRoundTripsRow, standIns := [], harness := (true, "2d53b76c0cef273488e9d7e84736d9bb8ad1094f4581b117ffbaccb94fcd6ec1"), looks := false }, kinds := [], alts := [], laidByText := true, laidKinds := [.data, .data, .data, .data, .widerDeep, .pinned], laidTests := true, laidLooks := .later }
def WaveRoundTripsCardSaid : Prop := Claim7.holds Tryd.pinned (.plain (OpenSpec.ofChange waveRoundTripsSpec)) waveRoundTripsCard

/-- THE TIED CARD OF 'testbenchlaw35.WaveReads'. -/
def waveReadsCard : Claim7 := { stood := { row := waveReadsRow, standIns := [], harness := (true, "2d53b76c0cef273488e9d7e84736d9bb8ad1094f4581b117ffbaccb94fcd6ec1"), looks := false }, kinds := [], alts := [], laidByText := true, laidKinds := [.data, .data, .data, .data, .widerDeep, .pinned], laidTests := true, laidLooks := .later }
def WaveReadsCardSaid : Prop := Claim7.holds Tryd.pinned (.plain (OpenSpec.ofChange waveReadsSpec)) waveReadsCard

/-- THE TIED CARD OF 'testbenchlaw35.WaveCuts'. -/
def waveCutsCard : Claim7 := { stood := { row := waveCutsRow, standIns := [], harness := (true, "2d53b76c0cef273488e9d7e84736d9bb8ad1094f4581b117ffbaccb94fcd6ec1"), looks := false }, kinds := [], alts := [], laidByText := true, laidKinds := [.data, .data, .data, .data, .widerDeep, .pinned], laidTests := true, laidLooks := .later }
def WaveCutsCardSaid : Prop := Claim7.holds Tryd.pinned (.plain (OpenSpec.ofChange waveCutsSpec)) waveCutsCard

/-- THE TIED CARD OF 'testbenchlaw35.WaveOnly'. -/
def waveOnlyCard : Claim7 := { stood := { row := waveOnlyRow, standIns := [], harness := (true, "2d53b76c0cef273488e9d7e84736d9bb8ad1094f4581b117ffbaccb94fcd6ec1"), looks := false }, kinds := [], alts := [], laidByText := true, laidKinds := [.data, .data, .data, .data, .widerDeep, .pinned], laidTests := true, laidLooks := .later }
def WaveOnlyCardSaid : Prop := Claim7.holds Tryd.pinned (.plain (OpenSpec.ofChange waveOnlySpec)) waveOnlyCard

/-- THE TIED CARD OF 'testbenchlaw35.WaveJoins'. -/
def waveJoinsCard : Claim7 := { stood := { row := waveJoinsRow, standIns := [], harness := (true, "2d53b76c0cef273488e9d7e84736d9bb8ad1094f4581b117ffbaccb94fcd6ec1"), looks := false }, kinds := [], alts := [], laidByText := true, laidKinds := [.data, .data, .data, .data, .widerDeep, .pinned], laidTests := true, laidLooks := .later }
def WaveJoinsCardSaid : Prop := Claim7.holds Tryd.pinned (.plain (OpenSpec.ofChange waveJoinsSpec)) waveJoinsCard

/-- THE TIED CARD OF 'testbenchlaw35.WaveSplits'. -/
def waveSplitsCard : Claim7 := { stood := { row := waveSplitsRow, standIns := [], harness := (true, "2d53b76c0cef273488e9d7e84736d9bb8ad1094f4581b117ffbaccb94fcd6ec1"), looks := false }, kinds := [], alts := [], laidByText := true, laidKinds := [.data, .data, .data, .data, .widerDeep, .pinned], laidTests := true, laidLooks := .later }
def WaveSplitsCardSaid : Prop := Claim7.holds Tryd.pinned (.plain (OpenSpec.ofChange waveSplitsSpec)) waveSplitsCard

/-- THE SECOND FORM's CARD OF 'testbenchlaw35.WaveParses'. -/
def waveParsesUptoCard : Claim7 := { stood := { row := waveParsesUptoRow, standIns := [], harness := (true, "2d53b76c0cef273488e9d7e84736d9bb8ad1094f4581b117ffbaccb94fcd6ec1"), looks := false }, kinds := [], alts := [], laidByText := true, laidKinds := [.data, .data, .data, .data, .widerDeep, .pinned], laidTests := true, laidLooks := .later }
def WaveParsesUptoCardSaid : Prop := Claim7.holds Tryd.pinned (.plain (OpenSpec.upto waveParsesSpec)) waveParsesUptoCard

/-- THE SECOND FORM's CARD OF 'testbenchlaw35.WaveLimits'. -/
def waveLimitsUptoCard : Claim7 := { stood := { row := waveLimitsUptoRow, standIns := [], harness := (true, "2d53b76c0cef273488e9d7e84736d9bb8ad1094f4581b117ffbaccb94fcd6ec1"), looks := false }, kinds := [], alts := [], laidByText := true, laidKinds := [.data, .data, .data, .data, .widerDeep, .pinned], laidTests := true, laidLooks := .later }
def WaveLimitsUptoCardSaid : Prop := Claim7.holds Tryd.pinned (.plain (OpenSpec.upto waveLimitsSpec)) waveLimitsUptoCard

/-- THE SECOND FORM's CARD OF 'testbenchlaw35.WaveRoundTrips'. -/
def waveRoundTripsUptoCard : Claim7 := { stood := { row := waveRoundTripsUptoRow, standIns := [], harness := (true, "2d53b76c0cef273488e9d7e84736d9bb8ad1094f4581b117ffbaccb94fcd6ec1"), looks := false }, kinds := [], alts := [], laidByText := true, laidKinds := [.data, .data, .data, .data, .widerDeep, .pinned], laidTests := true, laidLooks := .later }
def WaveRoundTripsUptoCardSaid : Prop := Claim7.holds Tryd.pinned (.plain (OpenSpec.upto waveRoundTripsSpec)) waveRoundTripsUptoCard

/-- THE SECOND FORM's CARD OF 'testbenchlaw35.WaveReads'. -/
def waveReadsUptoCard : Claim7 := { stood := { row := waveReadsUptoRow, standIns := [], harness := (true, "2d53b76c0cef273488e9d7e84736d9bb8ad1094f4581b117ffbaccb94fcd6ec1"), looks := false }, kinds := [], alts := [], laidByText := true, laidKinds := [.data, .data, .data, .data, .widerDeep, .pinned], laidTests := true, laidLooks := .later }
def WaveReadsUptoCardSaid : Prop := Claim7.holds Tryd.pinned (.plain (OpenSpec.upto waveReadsSpec)) waveReadsUptoCard

/-- THE SECOND FORM's CARD OF 'testbenchlaw35.WaveCuts'. -/
def waveCutsUptoCard : Claim7 := { stood := { row := waveCutsUptoRow, standIns := [], harness := (true, "2d53b76c0cef273488e9d7e84736d9bb8ad1094f4581b117ffbaccb94fcd6ec1"), looks := false }, kinds := [], alts := [], laidByText := true, laidKinds := [.data, .data, .data, .data, .widerDeep, .pinned], laidTests := true, laidLooks := .later }
def WaveCutsUptoCardSaid : Prop := Claim7.holds Tryd.pinned (.plain (OpenSpec.upto waveCutsSpec)) waveCutsUptoCard

/-- THE SECOND FORM's CARD OF 'testbenchlaw35.WaveOnly'. -/
def waveOnlyUptoCard : Claim7 := { stood := { row := waveOnlyUptoRow, standIns := [], harness := (true, "2d53b76c0cef273488e9d7e84736d9bb8ad1094f4581b117ffbaccb94fcd6ec1"), looks := false }, kinds := [], alts := [], laidByText := true, laidKinds := [.data, .data, .data, .data, .widerDeep, .pinned], laidTests := true, laidLooks := .later }
def WaveOnlyUptoCardSaid : Prop := Claim7.holds Tryd.pinned (.plain (OpenSpec.upto waveOnlySpec)) waveOnlyUptoCard

/-- THE SECOND FORM's CARD OF 'testbenchlaw35.WaveJoins'. -/
def waveJoinsUptoCard : Claim7 := { stood := { row := waveJoinsUptoRow, standIns := [], harness := (true, "2d53b76c0cef273488e9d7e84736d9bb8ad1094f4581b117ffbaccb94fcd6ec1"), looks := false }, kinds := [], alts := [], laidByText := true, laidKinds := [.data, .data, .data, .data, .widerDeep, .pinned], laidTests := true, laidLooks := .later }
def WaveJoinsUptoCardSaid : Prop := Claim7.holds Tryd.pinned (.plain (OpenSpec.upto waveJoinsSpec)) waveJoinsUptoCard

/-- THE SECOND FORM's CARD OF 'testbenchlaw35.WaveSplits'. -/
def waveSplitsUptoCard : Claim7 := { stood := { row := waveSplitsUptoRow, standIns := [], harness := (true, "2d53b76c0cef273488e9d7e84736d9bb8ad1094f4581b117ffbaccb94fcd6ec1"), looks := false }, kinds := [], alts := [], laidByText := true, laidKinds := [.data, .data, .data, .data, .widerDeep, .pinned], laidTests := true, laidLooks := .later }
def WaveSplitsUptoCardSaid : Prop := Claim7.holds Tryd.pinned (.plain (OpenSpec.upto waveSplitsSpec)) waveSplitsUptoCard
end Rows
end Go.Proofs.YthpioaboekpjoaaDoor
