/-
  NARROWER THAN 'FOR EVERY INPUT', by the rows' own cells (each row's printed sentence says how): WaveParses: laid · WaveLimits: laid · WaveRoundTrips: laid · WaveReads: laid · WaveCuts: laid · WaveOnly: laid · WaveJoins: laid · WaveSplits: laid.
  DERIVED. THE GIVEN ROWS OF THIS SEAT. 8 by the template 'for every input the law returns true; each argument reads behind the call as it read before'; 0 by the template 'total and deterministic' (their statements: YthpioaboekpjoaaDoorTotals.lean).
  GIVEN WITH THE SEED: the statements are not yours to turn. If you find one false, say at which input.
  Laid BY PROGRAM, IN A SANDBOX (cutbox-rows.mjs): the forced cells as the released guide's own fill.sh prints them over the translation ea85bda4654025ec… (all of the seat's roots in one cut). By AI agents, Wed Nov 11 2026. No macro, syntax, notation, axiom, sorry.
-/
import Derived.Test.YthpioaboekpjoaaDoorChecked
import GoSem.PinnedTables
import GoSem.Claim
import GoSem.ClaimJoined
import GoSem.ClaimMapViews
import Derived.JoinedTies
import Derived.KernelRfl
namespace Go.Proofs.YthpioaboekpjoaaDoor
/- THE CELL 'sum', in the pinned program and in every row, IS THE sha256 OF THE DUMP (.gsa) THAT YthpioaboekpjoaaDoorProg.lean LOADS. Nothing in Lean hashes anything: it is a label: what it is worth is what the hold of that sum in a sandbox is worth. -/
noncomputable def Tryd.pinned : Pinned := { name := "ythpioaboekpjoaadoor", sum := "ea85bda4654025ecc10e7ea69d7d128cf9310e05cc9704e93039d783a202c1f6", checked := Tryd.checked }
namespace Rows
def none {H : Type} : Left H := { results := [], args := [] }

/- WHAT THE LISTED PACKAGE-LEVEL VARIABLES READ AS WHEN THE CALL BEGINS. Each datum BY PROGRAM (the guide's laid-datum.mjs) off the statement by which the dump's own 'gosem.cut.vars' lays the variable. In a bare row this is a premise. The card (YthpioaboekpjoaaDoorCards.lean) ties it to the program's text. -/
def laid_math_bits_deBruijn32tab {H : Type} : DataW H := .agg [.lit (.int .u8 0), .lit (.int .u8 1), .lit (.int .u8 28), .lit (.int .u8 2), .lit (.int .u8 29), .lit (.int .u8 14), .lit (.int .u8 24), .lit (.int .u8 3), .lit (.int .u8 30), .lit (.int .u8 22), .lit (.int .u8 20), .lit (.int .u8 15), .lit (.int .u8 25), .lit (.int .u8 17), .lit (.int .u8 4), .lit (.int .u8 8), .lit (.int .u8 31), .lit (.int .u8 27), .lit (.int .u8 13), .lit (.int .u8 23), .lit (.int .u8 21), .lit (.int .u8 19), .lit (.int .u8 16), .lit (.int .u8 7), .lit (.int .u8 26), .lit (.int .u8 12), .lit (.int .u8 18), .lit (.int .u8 6), .lit (.int .u8 11), .lit (.int .u8 5), .lit (.int .u8 10), .lit (.int .u8 9)]
def laid_math_bits_deBruijn64tab {H : Type} : DataW H := .agg [.lit (.int .u8 0), .lit (.int .u8 1), .lit (.int .u8 56), .lit (.int .u8 2), .lit (.int .u8 57), .lit (.int .u8 49), .lit (.int .u8 28), .lit (.int .u8 3), .lit (.int .u8 61), .lit (.int .u8 58), .lit (.int .u8 42), .lit (.int .u8 50), .lit (.int .u8 38), .lit (.int .u8 29), .lit (.int .u8 17), .lit (.int .u8 4), .lit (.int .u8 62), .lit (.int .u8 47), .lit (.int .u8 59), .lit (.int .u8 36), .lit (.int .u8 45), .lit (.int .u8 43), .lit (.int .u8 51), .lit (.int .u8 22), .lit (.int .u8 53), .lit (.int .u8 39), .lit (.int .u8 33), .lit (.int .u8 30), .lit (.int .u8 24), .lit (.int .u8 18), .lit (.int .u8 12), .lit (.int .u8 5), .lit (.int .u8 63), .lit (.int .u8 55), .lit (.int .u8 48), .lit (.int .u8 27), .lit (.int .u8 60), .lit (.int .u8 41), .lit (.int .u8 37), .lit (.int .u8 16), .lit (.int .u8 46), .lit (.int .u8 35), .lit (.int .u8 44), .lit (.int .u8 21), .lit (.int .u8 52), .lit (.int .u8 32), .lit (.int .u8 23), .lit (.int .u8 11), .lit (.int .u8 54), .lit (.int .u8 26), .lit (.int .u8 40), .lit (.int .u8 15), .lit (.int .u8 34), .lit (.int .u8 20), .lit (.int .u8 31), .lit (.int .u8 10), .lit (.int .u8 25), .lit (.int .u8 14), .lit (.int .u8 19), .lit (.int .u8 9), .lit (.int .u8 13), .lit (.int .u8 8), .lit (.int .u8 7), .lit (.int .u8 6)]
def laid_internal_strconv_uint64pow10 {H : Type} : DataW H := .agg [.lit (.int .u64 1), .lit (.int .u64 10), .lit (.int .u64 100), .lit (.int .u64 1000), .lit (.int .u64 10000), .lit (.int .u64 100000), .lit (.int .u64 1000000), .lit (.int .u64 10000000), .lit (.int .u64 100000000), .lit (.int .u64 1000000000), .lit (.int .u64 10000000000), .lit (.int .u64 100000000000), .lit (.int .u64 1000000000000), .lit (.int .u64 10000000000000), .lit (.int .u64 100000000000000), .lit (.int .u64 1000000000000000), .lit (.int .u64 10000000000000000), .lit (.int .u64 100000000000000000), .lit (.int .u64 1000000000000000000), .lit (.int .u64 10000000000000000000)]
def laid_unicode_utf8_acceptRanges {H : Type} : DataW H := .agg [.agg [.lit (.int .u8 128), .lit (.int .u8 191)], .agg [.lit (.int .u8 160), .lit (.int .u8 191)], .agg [.lit (.int .u8 128), .lit (.int .u8 159)], .agg [.lit (.int .u8 144), .lit (.int .u8 191)], .agg [.lit (.int .u8 128), .lit (.int .u8 143)], .agg [.lit (.int .u8 0), .lit (.int .u8 0)], .agg [.lit (.int .u8 0), .lit (.int .u8 0)], .agg [.lit (.int .u8 0), .lit (.int .u8 0)], .agg [.lit (.int .u8 0), .lit (.int .u8 0)], .agg [.lit (.int .u8 0), .lit (.int .u8 0)], .agg [.lit (.int .u8 0), .lit (.int .u8 0)], .agg [.lit (.int .u8 0), .lit (.int .u8 0)], .agg [.lit (.int .u8 0), .lit (.int .u8 0)], .agg [.lit (.int .u8 0), .lit (.int .u8 0)], .agg [.lit (.int .u8 0), .lit (.int .u8 0)], .agg [.lit (.int .u8 0), .lit (.int .u8 0)]]
def laid_testbench_lexer_keywords {H : Type} : DataW H := .slice [.lit (.string [99, 108, 97, 115, 115]), .lit (.string [101, 120, 116, 101, 110, 100, 115]), .lit (.string [114, 97, 110, 100]), .lit (.string [114, 97, 110, 100, 99]), .lit (.string [115, 116, 97, 116, 101]), .lit (.string [99, 111, 110, 115, 116, 114, 97, 105, 110, 116]), .lit (.string [115, 111, 102, 116]), .lit (.string [100, 105, 115, 116]), .lit (.string [105, 102]), .lit (.string [101, 108, 115, 101]), .lit (.string [101, 97, 99, 104]), .lit (.string [105, 110]), .lit (.string [115, 111, 108, 118, 101]), .lit (.string [98, 101, 102, 111, 114, 101]), .lit (.string [105, 110, 115, 105, 100, 101]), .lit (.string [112, 114, 111, 112, 101, 114, 116, 121]), .lit (.string [115, 101, 113]), .lit (.string [97, 110, 100]), .lit (.string [111, 114]), .lit (.string [110, 111, 116]), .lit (.string [115, 101, 116]), .lit (.string [104, 111, 108, 100]), .lit (.string [112, 108, 97, 105, 110]), .lit (.string [114, 101, 112, 101, 97, 116])] []
/-- One of Go's own tables, pinned by name: the form's constant. -/
def laid_unicode_utf8_first : DataW Unit := Go.Pinned.utf8First

/-- 'testbenchlaw35.WaveParses': WHATEVER THE INPUT: true; the input reads as it did. -/
def waveParsesSpec : ChangeSpec := { name := "waveParses", fn := fun _ => fun
  | [d] => { results := [.lit (.bool true)], args := [d] }
  | _ => none }
def waveParsesRow : OpenClaim := { program := "ythpioaboekpjoaadoor", sum := "ea85bda4654025ecc10e7ea69d7d128cf9310e05cc9704e93039d783a202c1f6", func := "testbench/testbenchlaw35.WaveParses", spec := "waveParses", inPlace := ["internal/bytealg.CountString", "internal/bytealg.IndexByteString", "internal/bytealg.IndexString", "internal/abi.NoEscape", "internal/bytealg.MakeNoZero"], unfollowed := true, recurses := true, named := ["unicode/utf8.first", "unicode/utf8.acceptRanges", "internal/bytealg.MaxLen", "testbench/lexer.keywords", "internal/strconv.uint64pow10", "math/bits.deBruijn32tab", "math/bits.deBruijn64tab"], apart := false, laid := [("math/bits.deBruijn32tab", laid_math_bits_deBruijn32tab), ("math/bits.deBruijn64tab", laid_math_bits_deBruijn64tab), ("internal/strconv.uint64pow10", laid_internal_strconv_uint64pow10), ("unicode/utf8.acceptRanges", laid_unicode_utf8_acceptRanges), ("testbench/lexer.keywords", laid_testbench_lexer_keywords), ("unicode/utf8.first", laid_unicode_utf8_first)] }
def WaveParsesSaid : Prop := waveParsesRow.holds Tryd.pinned (OpenSpec.ofChange waveParsesSpec)

/-- ITS FALSE NEIGHBOUR: 'it returns false'. Refute it at one input. -/
def waveParsesWrong : ChangeSpec := { name := "waveParses", fn := fun _ => fun
  | [d] => { results := [.lit (.bool false)], args := [d] }
  | _ => none }
def WaveParsesWrongFalsely : Prop := waveParsesRow.holds Tryd.pinned (OpenSpec.ofChange waveParsesWrong)

/-- 'testbenchlaw35.WaveLimits': WHATEVER THE INPUT: true; the input reads as it did. -/
def waveLimitsSpec : ChangeSpec := { name := "waveLimits", fn := fun _ => fun
  | [d1, d2] => { results := [.lit (.bool true)], args := [d1, d2] }
  | _ => none }
def waveLimitsRow : OpenClaim := { program := "ythpioaboekpjoaadoor", sum := "ea85bda4654025ecc10e7ea69d7d128cf9310e05cc9704e93039d783a202c1f6", func := "testbench/testbenchlaw35.WaveLimits", spec := "waveLimits", inPlace := ["internal/bytealg.CountString", "internal/bytealg.IndexByteString", "internal/bytealg.IndexString", "internal/abi.NoEscape", "internal/bytealg.MakeNoZero"], unfollowed := true, recurses := true, named := ["unicode/utf8.first", "unicode/utf8.acceptRanges", "internal/bytealg.MaxLen", "testbench/lexer.keywords", "internal/strconv.uint64pow10", "math/bits.deBruijn32tab", "math/bits.deBruijn64tab"], apart := false, laid := [("math/bits.deBruijn32tab", laid_math_bits_deBruijn32tab), ("math/bits.deBruijn64tab", laid_math_bits_deBruijn64tab), ("internal/strconv.uint64pow10", laid_internal_strconv_uint64pow10), ("unicode/utf8.acceptRanges", laid_unicode_utf8_acceptRanges), ("testbench/lexer.keywords", laid_testbench_lexer_keywords), ("unicode/utf8.first", laid_unicode_utf8_first)] }
def WaveLimitsSaid : Prop := waveLimitsRow.holds Tryd.pinned (OpenSpec.ofChange waveLimitsSpec)

/-- ITS FALSE NEIGHBOUR: 'it returns false'. Refute it at one input. -/
def waveLimitsWrong : ChangeSpec := { name := "waveLimits", fn := fun _ => fun
  | [d1, d2] => { results := [.lit (.bool false)], args := [d1, d2] }
  | _ => none }
def WaveLimitsWrongFalsely : Prop := waveLimitsRow.holds Tryd.pinned (OpenSpec.ofChange waveLimitsWrong)

/-- 'testbenchlaw35.WaveRoundTrips': WHATEVER THE INPUT: true; the input reads as it did. -/
def waveRoundTripsSpec : ChangeSpec := { name := "waveRoundTrips", fn := fun _ => fun
  | [d] => { results := [.lit (.bool true)], args := [d] }
  | _ => none }
def waveRoundTripsRow : OpenClaim := { program := "ythpioaboekpjoaadoor", sum := "ea85bda4654025ecc10e7ea69d7d128cf9310e05cc9704e93039d783a202c1f6", func := "testbench/testbenchlaw35.WaveRoundTrips", spec := "waveRoundTrips", inPlace := ["internal/bytealg.CountString", "internal/bytealg.IndexByteString", "internal/bytealg.IndexString", "internal/abi.NoEscape", "internal/bytealg.MakeNoZero"], unfollowed := true, recurses := true, named := ["unicode/utf8.first", "unicode/utf8.acceptRanges", "internal/bytealg.MaxLen", "testbench/lexer.keywords", "internal/strconv.uint64pow10", "math/bits.deBruijn32tab", "math/bits.deBruijn64tab"], apart := false, laid := [("math/bits.deBruijn32tab", laid_math_bits_deBruijn32tab), ("math/bits.deBruijn64tab", laid_math_bits_deBruijn64tab), ("internal/strconv.uint64pow10", laid_internal_strconv_uint64pow10), ("unicode/utf8.acceptRanges", laid_unicode_utf8_acceptRanges), ("testbench/lexer.keywords", laid_testbench_lexer_keywords), ("unicode/utf8.first", laid_unicode_utf8_first)] }
def WaveRoundTripsSaid : Prop := waveRoundTripsRow.holds Tryd.pinned (OpenSpec.ofChange waveRoundTripsSpec)

/-- ITS FALSE NEIGHBOUR: 'it returns false'. Refute it at one input. -/
def waveRoundTripsWrong : ChangeSpec := { name := "waveRoundTrips", fn := fun _ => fun
  | [d] => { results := [.lit (.bool false)], args := [d] }
  | _ => none }
def WaveRoundTripsWrongFalsely : Prop := waveRoundTripsRow.holds Tryd.pinned (OpenSpec.ofChange waveRoundTripsWrong)

/-- 'testbenchlaw35.WaveReads': WHATEVER THE INPUT: true; the input reads as it did. -/
def waveReadsSpec : ChangeSpec := { name := "waveReads", fn := fun _ => fun
  | [d1, d2, d3] => { results := [.lit (.bool true)], args := [d1, d2, d3] }
  | _ => none }
def waveReadsRow : OpenClaim := { program := "ythpioaboekpjoaadoor", sum := "ea85bda4654025ecc10e7ea69d7d128cf9310e05cc9704e93039d783a202c1f6", func := "testbench/testbenchlaw35.WaveReads", spec := "waveReads", inPlace := ["internal/bytealg.CountString", "internal/bytealg.IndexByteString", "internal/bytealg.IndexString", "internal/abi.NoEscape", "internal/bytealg.MakeNoZero"], unfollowed := true, recurses := true, named := ["unicode/utf8.first", "unicode/utf8.acceptRanges", "internal/bytealg.MaxLen", "testbench/lexer.keywords", "internal/strconv.uint64pow10", "math/bits.deBruijn32tab", "math/bits.deBruijn64tab"], apart := false, laid := [("math/bits.deBruijn32tab", laid_math_bits_deBruijn32tab), ("math/bits.deBruijn64tab", laid_math_bits_deBruijn64tab), ("internal/strconv.uint64pow10", laid_internal_strconv_uint64pow10), ("unicode/utf8.acceptRanges", laid_unicode_utf8_acceptRanges), ("testbench/lexer.keywords", laid_testbench_lexer_keywords), ("unicode/utf8.first", laid_unicode_utf8_first)] }
def WaveReadsSaid : Prop := waveReadsRow.holds Tryd.pinned (OpenSpec.ofChange waveReadsSpec)

/-- ITS FALSE NEIGHBOUR: 'it returns false'. Refute it at one input. -/
def waveReadsWrong : ChangeSpec := { name := "waveReads", fn := fun _ => fun
  | [d1, d2, d3] => { results := [.lit (.bool false)], args := [d1, d2, d3] }
  | _ => none }
def WaveReadsWrongFalsely : Prop := waveReadsRow.holds Tryd.pinned (OpenSpec.ofChange waveReadsWrong)

/-- 'testbenchlaw35.WaveCuts': WHATEVER THE INPUT: true; the input reads as it did. -/
def waveCutsSpec : ChangeSpec := { name := "waveCuts", fn := fun _ => fun
  | [d1, d2, d3] => { results := [.lit (.bool true)], args := [d1, d2, d3] }
  | _ => none }
def waveCutsRow : OpenClaim := { program := "ythpioaboekpjoaadoor", sum := "ea85bda4654025ecc10e7ea69d7d128cf9310e05cc9704e93039d783a202c1f6", func := "testbench/testbenchlaw35.WaveCuts", spec := "waveCuts", inPlace := ["internal/bytealg.CountString", "internal/bytealg.IndexByteString", "internal/bytealg.IndexString", "internal/abi.NoEscape", "internal/bytealg.MakeNoZero"], unfollowed := true, recurses := true, named := ["unicode/utf8.first", "unicode/utf8.acceptRanges", "internal/bytealg.MaxLen", "testbench/lexer.keywords", "internal/strconv.uint64pow10", "math/bits.deBruijn32tab", "math/bits.deBruijn64tab"], apart := false, laid := [("math/bits.deBruijn32tab", laid_math_bits_deBruijn32tab), ("math/bits.deBruijn64tab", laid_math_bits_deBruijn64tab), ("internal/strconv.uint64pow10", laid_internal_strconv_uint64pow10), ("unicode/utf8.acceptRanges", laid_unicode_utf8_acceptRanges), ("testbench/lexer.keywords", laid_testbench_lexer_keywords), ("unicode/utf8.first", laid_unicode_utf8_first)] }
def WaveCutsSaid : Prop := waveCutsRow.holds Tryd.pinned (OpenSpec.ofChange waveCutsSpec)

/-- ITS FALSE NEIGHBOUR: 'it returns false'. Refute it at one input. -/
def waveCutsWrong : ChangeSpec := { name := "waveCuts", fn := fun _ => fun
  | [d1, d2, d3] => { results := [.lit (.bool false)], args := [d1, d2, d3] }
  | _ => none }
def WaveCutsWrongFalsely : Prop := waveCutsRow.holds Tryd.pinned (OpenSpec.ofChange waveCutsWrong)

/-- 'testbenchlaw35.WaveOnly': WHATEVER THE INPUT: true; the input reads as it did. -/
def waveOnlySpec : ChangeSpec := { name := "waveOnly", fn := fun _ => fun
  | [d1, d2] => { results := [.lit (.bool true)], args := [d1, d2] }
  | _ => none }
def waveOnlyRow : OpenClaim := { program := "ythpioaboekpjoaadoor", sum := "ea85bda4654025ecc10e7ea69d7d128cf9310e05cc9704e93039d783a202c1f6", func := "testbench/testbenchlaw35.WaveOnly", spec := "waveOnly", inPlace := ["internal/bytealg.CountString", "internal/bytealg.IndexByteString", "internal/bytealg.IndexString", "internal/abi.NoEscape", "internal/bytealg.MakeNoZero"], unfollowed := true, recurses := true, named := ["unicode/utf8.first", "unicode/utf8.acceptRanges", "internal/bytealg.MaxLen", "testbench/lexer.keywords", "internal/strconv.uint64pow10", "math/bits.deBruijn32tab", "math/bits.deBruijn64tab"], apart := false, laid := [("math/bits.deBruijn32tab", laid_math_bits_deBruijn32tab), ("math/bits.deBruijn64tab", laid_math_bits_deBruijn64tab), ("internal/strconv.uint64pow10", laid_internal_strconv_uint64pow10), ("unicode/utf8.acceptRanges", laid_unicode_utf8_acceptRanges), ("testbench/lexer.keywords", laid_testbench_lexer_keywords), ("unicode/utf8.first", laid_unicode_utf8_first)] }
def WaveOnlySaid : Prop := waveOnlyRow.holds Tryd.pinned (OpenSpec.ofChange waveOnlySpec)

/-- ITS FALSE NEIGHBOUR: 'it returns false'. Refute it at one input. -/
def waveOnlyWrong : ChangeSpec := { name := "waveOnly", fn := fun _ => fun
  | [d1, d2] => { results := [.lit (.bool false)], args := [d1, d2] }
  | _ => none }
def WaveOnlyWrongFalsely : Prop := waveOnlyRow.holds Tryd.pinned (OpenSpec.ofChange waveOnlyWrong)

/-- 'testbenchlaw35.WaveJoins': WHATEVER THE INPUT: true; the input reads as it did. -/
def waveJoinsSpec : ChangeSpec := { name := "waveJoins", fn := fun _ => fun
  | [d1, d2] => { results := [.lit (.bool true)], args := [d1, d2] }
  | _ => none }
def waveJoinsRow : OpenClaim := { program := "ythpioaboekpjoaadoor", sum := "ea85bda4654025ecc10e7ea69d7d128cf9310e05cc9704e93039d783a202c1f6", func := "testbench/testbenchlaw35.WaveJoins", spec := "waveJoins", inPlace := ["internal/bytealg.CountString", "internal/bytealg.IndexByteString", "internal/bytealg.IndexString", "internal/abi.NoEscape", "internal/bytealg.MakeNoZero"], unfollowed := true, recurses := true, named := ["unicode/utf8.first", "unicode/utf8.acceptRanges", "internal/bytealg.MaxLen", "testbench/lexer.keywords", "internal/strconv.uint64pow10", "math/bits.deBruijn32tab", "math/bits.deBruijn64tab"], apart := false, laid := [("math/bits.deBruijn32tab", laid_math_bits_deBruijn32tab), ("math/bits.deBruijn64tab", laid_math_bits_deBruijn64tab), ("internal/strconv.uint64pow10", laid_internal_strconv_uint64pow10), ("unicode/utf8.acceptRanges", laid_unicode_utf8_acceptRanges), ("testbench/lexer.keywords", laid_testbench_lexer_keywords), ("unicode/utf8.first", laid_unicode_utf8_first)] }
def WaveJoinsSaid : Prop := waveJoinsRow.holds Tryd.pinned (OpenSpec.ofChange waveJoinsSpec)

/-- ITS FALSE NEIGHBOUR: 'it returns false'. Refute it at one input. -/
def waveJoinsWrong : ChangeSpec := { name := "waveJoins", fn := fun _ => fun
  | [d1, d2] => { results := [.lit (.bool false)], args := [d1, d2] }
  | _ => none }
def WaveJoinsWrongFalsely : Prop := waveJoinsRow.holds Tryd.pinned (OpenSpec.ofChange waveJoinsWrong)

/-- 'testbenchlaw35.WaveSplits': WHATEVER THE INPUT: true; the input reads as it did. -/
def waveSplitsSpec : ChangeSpec := { name := "waveSplits", fn := fun _ => fun
  | [d1, d2, d3] => { results := [.lit (.bool true)], args := [d1, d2, d3] }
  | _ => none }
def waveSplitsRow : OpenClaim := { program := "ythpioaboekpjoaadoor", sum := "ea85bda4654025ecc10e7ea69d7d128cf9310e05cc9704e93039d783a202c1f6", func := "testbench/testbenchlaw35.WaveSplits", spec := "waveSplits", inPlace := ["internal/bytealg.CountString", "internal/bytealg.IndexByteString", "internal/bytealg.IndexString", "internal/abi.NoEscape", "internal/bytealg.MakeNoZero"], unfollowed := true, recurses := true, named := ["unicode/utf8.first", "unicode/utf8.acceptRanges", "internal/bytealg.MaxLen", "testbench/lexer.keywords", "internal/strconv.uint64pow10", "math/bits.deBruijn32tab", "math/bits.deBruijn64tab"], apart := false, laid := [("math/bits.deBruijn32tab", laid_math_bits_deBruijn32tab), ("math/bits.deBruijn64tab", laid_math_bits_deBruijn64tab), ("internal/strconv.uint64pow10", laid_internal_strconv_uint64pow10), ("unicode/utf8.acceptRanges", laid_unicode_utf8_acceptRanges), ("testbench/lexer.keywords", laid_testbench_lexer_keywords), ("unicode/utf8.first", laid_unicode_utf8_first)] }
def WaveSplitsSaid : Prop := waveSplitsRow.holds Tryd.pinned (OpenSpec.ofChange waveSplitsSpec)

/-- ITS FALSE NEIGHBOUR: 'it returns false'. Refute it at one input. -/
def waveSplitsWrong : ChangeSpec := { name := "waveSplits", fn := fun _ => fun
  | [d1, d2, d3] => { results := [.lit (.bool false)], args := [d1, d2, d3] }
  | _ => none }
def WaveSplitsWrongFalsely : Prop := waveSplitsRow.holds Tryd.pinned (OpenSpec.ofChange waveSplitsWrong)

/- THE SECOND FORM. 'bulk': how many values and letters a reading holds, each counted each time it is reached (what is shared counts as often as it is met; a slice's spare places count too). A statement '..UptoSaid' is the law's where the arguments, and the package variables that the reading takes, are together of bulk at most 1048576: NARROWER than '..Said'. Prove '..Said' where nothing that the law and all that it calls make is longer than what came in: it says more and counts as full. Else prove '..UptoSaid'. A law counts once. -/
mutual
def uptoBulk {H : Type} : DataW H → Nat
  | .lit (.string bytes) => bytes.length + 1
  | .lit _ => 1
  | .nil => 1
  | .ptr d => uptoBulk d + 1
  | .slice elems spare => uptoBulkAll elems + uptoBulkAll spare + 1
  | .agg parts => uptoBulkAll parts + 1
  | .iface _ d => uptoBulk d + 1
  | .map entries => uptoBulkEntries entries + 1
  | .held _ => 1
def uptoBulkAll {H : Type} : List (DataW H) → Nat
  | [] => 0
  | d :: r => uptoBulk d + uptoBulkAll r
def uptoBulkEntries {H : Type} : List (Lit × DataW H) → Nat
  | [] => 0
  | x :: r => uptoBulkEntry x + uptoBulkEntries r
def uptoBulkEntry {H : Type} : Lit × DataW H → Nat
  | (.string bytes, d) => bytes.length + uptoBulk d + 1
  | (_, d) => uptoBulk d + 1
 end
def uptoSmall : (H : Type) → List (DataW H) → Bool := fun _ ds => decide (uptoBulkAll ds ≤ 1048576)
def OpenSpec.upto (s : _root_.Go.ChangeSpec) : _root_.Go.OpenSpec := { _root_.Go.OpenSpec.ofChange s with cond := some uptoSmall }

/-- 'testbenchlaw35.WaveParses', WHERE WHAT IT READS IS OF BULK AT MOST 1048576: true; the input reads as it did. -/
def waveParsesUptoRow : OpenClaim := { program := "ythpioaboekpjoaadoor", sum := "ea85bda4654025ecc10e7ea69d7d128cf9310e05cc9704e93039d783a202c1f6", func := "testbench/testbenchlaw35.WaveParses", spec := "waveParses", inPlace := ["internal/bytealg.CountString", "internal/bytealg.IndexByteString", "internal/bytealg.IndexString", "internal/abi.NoEscape", "internal/bytealg.MakeNoZero"], unfollowed := true, recurses := true, named := ["unicode/utf8.first", "unicode/utf8.acceptRanges", "internal/bytealg.MaxLen", "testbench/lexer.keywords", "internal/strconv.uint64pow10", "math/bits.deBruijn32tab", "math/bits.deBruijn64tab"], apart := false, laid := [("math/bits.deBruijn32tab", laid_math_bits_deBruijn32tab), ("math/bits.deBruijn64tab", laid_math_bits_deBruijn64tab), ("internal/strconv.uint64pow10", laid_internal_strconv_uint64pow10), ("unicode/utf8.acceptRanges", laid_unicode_utf8_acceptRanges), ("testbench/lexer.keywords", laid_testbench_lexer_keywords), ("unicode/utf8.first", laid_unicode_utf8_first)], narrowed := true }
def WaveParsesUptoSaid : Prop := waveParsesUptoRow.holds Tryd.pinned (OpenSpec.upto waveParsesSpec)

/-- 'testbenchlaw35.WaveLimits', WHERE WHAT IT READS IS OF BULK AT MOST 1048576: true; the input reads as it did. -/
def waveLimitsUptoRow : OpenClaim := { program := "ythpioaboekpjoaadoor", sum := "ea85bda4654025ecc10e7ea69d7d128cf9310e05cc9704e93039d783a202c1f6", func := "testbench/testbenchlaw35.WaveLimits", spec := "waveLimits", inPlace := ["internal/bytealg.CountString", "internal/bytealg.IndexByteString", "internal/bytealg.IndexString", "internal/abi.NoEscape", "internal/bytealg.MakeNoZero"], unfollowed := true, recurses := true, named := ["unicode/utf8.first", "unicode/utf8.acceptRanges", "internal/bytealg.MaxLen", "testbench/lexer.keywords", "internal/strconv.uint64pow10", "math/bits.deBruijn32tab", "math/bits.deBruijn64tab"], apart := false, laid := [("math/bits.deBruijn32tab", laid_math_bits_deBruijn32tab), ("math/bits.deBruijn64tab", laid_math_bits_deBruijn64tab), ("internal/strconv.uint64pow10", laid_internal_strconv_uint64pow10), ("unicode/utf8.acceptRanges", laid_unicode_utf8_acceptRanges), ("testbench/lexer.keywords", laid_testbench_lexer_keywords), ("unicode/utf8.first", laid_unicode_utf8_first)], narrowed := true }
def WaveLimitsUptoSaid : Prop := waveLimitsUptoRow.holds Tryd.pinned (OpenSpec.upto waveLimitsSpec)

/-- 'testbenchlaw35.WaveRoundTrips', WHERE WHAT IT READS IS OF BULK AT MOST 1048576: true; the input reads as it did. -/
def waveRoundTripsUptoRow : OpenClaim := { program := "ythpioaboekpjoaadoor", sum := "ea85bda4654025ecc10e7ea69d7d128cf9310e05cc9704e93039d783a202c1f6", func := "testbench/testbenchlaw35.WaveRoundTrips", spec := "waveRoundTrips", inPlace := ["internal/bytealg.CountString", "internal/bytealg.IndexByteString", "internal/bytealg.IndexString", "internal/abi.NoEscape", "internal/bytealg.MakeNoZero"], unfollowed := true, recurses := true, named := ["unicode/utf8.first", "unicode/utf8.acceptRanges", "internal/bytealg.MaxLen", "testbench/lexer.keywords", "internal/strconv.uint64pow10", "math/bits.deBruijn32tab", "math/bits.deBruijn64tab"], apart := false, laid := [("math/bits.deBruijn32tab", laid_math_bits_deBruijn32tab), ("math/bits.deBruijn64tab", laid_math_bits_deBruijn64tab), ("internal/strconv.uint64pow10", laid_internal_strconv_uint64pow10), ("unicode/utf8.acceptRanges", laid_unicode_utf8_acceptRanges), ("testbench/lexer.keywords", laid_testbench_lexer_keywords), ("unicode/utf8.first", laid_unicode_utf8_first)], narrowed := true }
def WaveRoundTripsUptoSaid : Prop := waveRoundTripsUptoRow.holds Tryd.pinned (OpenSpec.upto waveRoundTripsSpec)

/-- 'testbenchlaw35.WaveReads', WHERE WHAT IT READS IS OF BULK AT MOST 1048576: true; the input reads as it did. -/
def waveReadsUptoRow : OpenClaim := { program := "ythpioaboekpjoaadoor", sum := "ea85bda4654025ecc10e7ea69d7d128cf9310e05cc9704e93039d783a202c1f6", func := "testbench/testbenchlaw35.WaveReads", spec := "waveReads", inPlace := ["internal/bytealg.CountString", "internal/bytealg.IndexByteString", "internal/bytealg.IndexString", "internal/abi.NoEscape", "internal/bytealg.MakeNoZero"], unfollowed := true, recurses := true, named := ["unicode/utf8.first", "unicode/utf8.acceptRanges", "internal/bytealg.MaxLen", "testbench/lexer.keywords", "internal/strconv.uint64pow10", "math/bits.deBruijn32tab", "math/bits.deBruijn64tab"], apart := false, laid := [("math/bits.deBruijn32tab", laid_math_bits_deBruijn32tab), ("math/bits.deBruijn64tab", laid_math_bits_deBruijn64tab), ("internal/strconv.uint64pow10", laid_internal_strconv_uint64pow10), ("unicode/utf8.acceptRanges", laid_unicode_utf8_acceptRanges), ("testbench/lexer.keywords", laid_testbench_lexer_keywords), ("unicode/utf8.first", laid_unicode_utf8_first)], narrowed := true }
def WaveReadsUptoSaid : Prop := waveReadsUptoRow.holds Tryd.pinned (OpenSpec.upto waveReadsSpec)

/-- 'testbenchlaw35.WaveCuts', WHERE WHAT IT READS IS OF BULK AT MOST 1048576: true; the input reads as it did. -/
def waveCutsUptoRow : OpenClaim := { program := "ythpioaboekpjoaadoor", sum := "ea85bda4654025ecc10e7ea69d7d128cf9310e05cc9704e93039d783a202c1f6", func := "testbench/testbenchlaw35.WaveCuts", spec := "waveCuts", inPlace := ["internal/bytealg.CountString", "internal/bytealg.IndexByteString", "internal/bytealg.IndexString", "internal/abi.NoEscape", "internal/bytealg.MakeNoZero"], unfollowed := true, recurses := true, named := ["unicode/utf8.first", "unicode/utf8.acceptRanges", "internal/bytealg.MaxLen", "testbench/lexer.keywords", "internal/strconv.uint64pow10", "math/bits.deBruijn32tab", "math/bits.deBruijn64tab"], apart := false, laid := [("math/bits.deBruijn32tab", laid_math_bits_deBruijn32tab), ("math/bits.deBruijn64tab", laid_math_bits_deBruijn64tab), ("internal/strconv.uint64pow10", laid_internal_strconv_uint64pow10), ("unicode/utf8.acceptRanges", laid_unicode_utf8_acceptRanges), ("testbench/lexer.keywords", laid_testbench_lexer_keywords), ("unicode/utf8.first", laid_unicode_utf8_first)], narrowed := true }
def WaveCutsUptoSaid : Prop := waveCutsUptoRow.holds Tryd.pinned (OpenSpec.upto waveCutsSpec)

/-- 'testbenchlaw35.WaveOnly', WHERE WHAT IT READS IS OF BULK AT MOST 1048576: true; the input reads as it did. -/
def waveOnlyUptoRow : OpenClaim := { program := "ythpioaboekpjoaadoor", sum := "ea85bda4654025ecc10e7ea69d7d128cf9310e05cc9704e93039d783a202c1f6", func := "testbench/testbenchlaw35.WaveOnly", spec := "waveOnly", inPlace := ["internal/bytealg.CountString", "internal/bytealg.IndexByteString", "internal/bytealg.IndexString", "internal/abi.NoEscape", "internal/bytealg.MakeNoZero"], unfollowed := true, recurses := true, named := ["unicode/utf8.first", "unicode/utf8.acceptRanges", "internal/bytealg.MaxLen", "testbench/lexer.keywords", "internal/strconv.uint64pow10", "math/bits.deBruijn32tab", "math/bits.deBruijn64tab"], apart := false, laid := [("math/bits.deBruijn32tab", laid_math_bits_deBruijn32tab), ("math/bits.deBruijn64tab", laid_math_bits_deBruijn64tab), ("internal/strconv.uint64pow10", laid_internal_strconv_uint64pow10), ("unicode/utf8.acceptRanges", laid_unicode_utf8_acceptRanges), ("testbench/lexer.keywords", laid_testbench_lexer_keywords), ("unicode/utf8.first", laid_unicode_utf8_first)], narrowed := true }
def WaveOnlyUptoSaid : Prop := waveOnlyUptoRow.holds Tryd.pinned (OpenSpec.upto waveOnlySpec)

/-- 'testbenchlaw35.WaveJoins', WHERE WHAT IT READS IS OF BULK AT MOST 1048576: true; the input reads as it did. -/
def waveJoinsUptoRow : OpenClaim := { program := "ythpioaboekpjoaadoor", sum := "ea85bda4654025ecc10e7ea69d7d128cf9310e05cc9704e93039d783a202c1f6", func := "testbench/testbenchlaw35.WaveJoins", spec := "waveJoins", inPlace := ["internal/bytealg.CountString", "internal/bytealg.IndexByteString", "internal/bytealg.IndexString", "internal/abi.NoEscape", "internal/bytealg.MakeNoZero"], unfollowed := true, recurses := true, named := ["unicode/utf8.first", "unicode/utf8.acceptRanges", "internal/bytealg.MaxLen", "testbench/lexer.keywords", "internal/strconv.uint64pow10", "math/bits.deBruijn32tab", "math/bits.deBruijn64tab"], apart := false, laid := [("math/bits.deBruijn32tab", laid_math_bits_deBruijn32tab), ("math/bits.deBruijn64tab", laid_math_bits_deBruijn64tab), ("internal/strconv.uint64pow10", laid_internal_strconv_uint64pow10), ("unicode/utf8.acceptRanges", laid_unicode_utf8_acceptRanges), ("testbench/lexer.keywords", laid_testbench_lexer_keywords), ("unicode/utf8.first", laid_unicode_utf8_first)], narrowed := true }
def WaveJoinsUptoSaid : Prop := waveJoinsUptoRow.holds Tryd.pinned (OpenSpec.upto waveJoinsSpec)

/-- 'testbenchlaw35.WaveSplits', WHERE WHAT IT READS IS OF BULK AT MOST 1048576: true; the input reads as it did. -/
def waveSplitsUptoRow : OpenClaim := { program := "ythpioaboekpjoaadoor", sum := "ea85bda4654025ecc10e7ea69d7d128cf9310e05cc9704e93039d783a202c1f6", func := "testbench/testbenchlaw35.WaveSplits", spec := "waveSplits", inPlace := ["internal/bytealg.CountString", "internal/bytealg.IndexByteString", "internal/bytealg.IndexString", "internal/abi.NoEscape", "internal/bytealg.MakeNoZero"], unfollowed := true, recurses := true, named := ["unicode/utf8.first", "unicode/utf8.acceptRanges", "internal/bytealg.MaxLen", "testbench/lexer.keywords", "internal/strconv.uint64pow10", "math/bits.deBruijn32tab", "math/bits.deBruijn64tab"], apart := false, laid := [("math/bits.deBruijn32tab", laid_math_bits_deBruijn32tab), ("math/bits.deBruijn64tab", laid_math_bits_deBruijn64tab), ("internal/strconv.uint64pow10", laid_internal_strconv_uint64pow10), ("unicode/utf8.acceptRanges", laid_unicode_utf8_acceptRanges), ("testbench/lexer.keywords", laid_testbench_lexer_keywords), ("unicode/utf8.first", laid_unicode_utf8_first)], narrowed := true }
def WaveSplitsUptoSaid : Prop := waveSplitsUptoRow.holds Tryd.pinned (OpenSpec.upto waveSplitsSpec)

end Rows
end Go.Proofs.YthpioaboekpjoaaDoor
