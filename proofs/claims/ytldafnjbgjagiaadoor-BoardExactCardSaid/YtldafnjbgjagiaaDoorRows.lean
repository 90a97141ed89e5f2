/-
  NARROWER THAN 'FOR EVERY INPUT', by the rows' own cells (each row's printed sentence says how): BoardExpects: laid · BoardObserves: laid · BoardRuns: laid · BoardExact: laid · BoardKeeps: laid · BoardShifts: laid.
  DERIVED. THE GIVEN ROWS OF THIS SEAT. 6 by the template 'for every input the law returns true; each argument reads behind the call as it read before'; 0 by the template 'total and deterministic' (their statements: YtldafnjbgjagiaaDoorTotals.lean).
  GIVEN WITH THE SEED: the statements are not yours to turn. If you find one false, say at which input.
  Laid BY PROGRAM, IN A SANDBOX (cutbox-rows.mjs): the forced cells as the released guide's own fill.sh prints them over the translation b162f7e8cfde3142… (all of the seat's roots in one cut). By AI agents, Wed Nov 11 2026. No macro, syntax, notation, axiom, sorry.
-/
import Derived.Test.YtldafnjbgjagiaaDoorChecked
import GoSem.Claim
import GoSem.ClaimJoined
import GoSem.ClaimMapViews
import Derived.JoinedTies
import Derived.KernelRfl
namespace Go.Proofs.YtldafnjbgjagiaaDoor
/- THE CELL 'sum', in the pinned program and in every row, IS THE sha256 OF THE DUMP (.gsa) THAT YtldafnjbgjagiaaDoorProg.lean LOADS. Nothing in Lean hashes anything: it is a label: what it is worth is what the hold of that sum in a sandbox is worth. -/
noncomputable def Tryd.pinned : Pinned := { name := "ytldafnjbgjagiaadoor", sum := "b162f7e8cfde3142a3c2e70a1e565a34d0f659b1650510a44eabd44a01b180fa", checked := Tryd.checked }
namespace Rows
def none {H : Type} : Left H := { results := [], args := [] }

/- WHAT THE LISTED PACKAGE-LEVEL VARIABLES READ AS WHEN THE CALL BEGINS. Each datum BY PROGRAM (the guide's laid-datum.mjs) off the statement by which the dump's own 'gosem.cut.vars' lays the variable. In a bare row this is a premise. The card (YtldafnjbgjagiaaDoorCards.lean) ties it to the program's text. -/
def laid_math_bits_deBruijn32tab {H : Type} : DataW H := .agg [.lit (.int .u8 0), .lit (.int .u8 1), .lit (.int .u8 28), .lit (.int .u8 2), .lit (.int .u8 29), .lit (.int .u8 14), .lit (.int .u8 24), .lit (.int .u8 3), .lit (.int .u8 30), .lit (.int .u8 22), .lit (.int .u8 20), .lit (.int .u8 15), .lit (.int .u8 25), .lit (.int .u8 17), .lit (.int .u8 4), .lit (.int .u8 8), .lit (.int .u8 31), .lit (.int .u8 27), .lit (.int .u8 13), .lit (.int .u8 23), .lit (.int .u8 21), .lit (.int .u8 19), .lit (.int .u8 16), .lit (.int .u8 7), .lit (.int .u8 26), .lit (.int .u8 12), .lit (.int .u8 18), .lit (.int .u8 6), .lit (.int .u8 11), .lit (.int .u8 5), .lit (.int .u8 10), .lit (.int .u8 9)]
def laid_math_bits_deBruijn64tab {H : Type} : DataW H := .agg [.lit (.int .u8 0), .lit (.int .u8 1), .lit (.int .u8 56), .lit (.int .u8 2), .lit (.int .u8 57), .lit (.int .u8 49), .lit (.int .u8 28), .lit (.int .u8 3), .lit (.int .u8 61), .lit (.int .u8 58), .lit (.int .u8 42), .lit (.int .u8 50), .lit (.int .u8 38), .lit (.int .u8 29), .lit (.int .u8 17), .lit (.int .u8 4), .lit (.int .u8 62), .lit (.int .u8 47), .lit (.int .u8 59), .lit (.int .u8 36), .lit (.int .u8 45), .lit (.int .u8 43), .lit (.int .u8 51), .lit (.int .u8 22), .lit (.int .u8 53), .lit (.int .u8 39), .lit (.int .u8 33), .lit (.int .u8 30), .lit (.int .u8 24), .lit (.int .u8 18), .lit (.int .u8 12), .lit (.int .u8 5), .lit (.int .u8 63), .lit (.int .u8 55), .lit (.int .u8 48), .lit (.int .u8 27), .lit (.int .u8 60), .lit (.int .u8 41), .lit (.int .u8 37), .lit (.int .u8 16), .lit (.int .u8 46), .lit (.int .u8 35), .lit (.int .u8 44), .lit (.int .u8 21), .lit (.int .u8 52), .lit (.int .u8 32), .lit (.int .u8 23), .lit (.int .u8 11), .lit (.int .u8 54), .lit (.int .u8 26), .lit (.int .u8 40), .lit (.int .u8 15), .lit (.int .u8 34), .lit (.int .u8 20), .lit (.int .u8 31), .lit (.int .u8 10), .lit (.int .u8 25), .lit (.int .u8 14), .lit (.int .u8 19), .lit (.int .u8 9), .lit (.int .u8 13), .lit (.int .u8 8), .lit (.int .u8 7), .lit (.int .u8 6)]
def laid_internal_strconv_uint64pow10 {H : Type} : DataW H := .agg [.lit (.int .u64 1), .lit (.int .u64 10), .lit (.int .u64 100), .lit (.int .u64 1000), .lit (.int .u64 10000), .lit (.int .u64 100000), .lit (.int .u64 1000000), .lit (.int .u64 10000000), .lit (.int .u64 100000000), .lit (.int .u64 1000000000), .lit (.int .u64 10000000000), .lit (.int .u64 100000000000), .lit (.int .u64 1000000000000), .lit (.int .u64 10000000000000), .lit (.int .u64 100000000000000), .lit (.int .u64 1000000000000000), .lit (.int .u64 10000000000000000), .lit (.int .u64 100000000000000000), .lit (.int .u64 1000000000000000000), .lit (.int .u64 10000000000000000000)]
def laid_testbench_lexer_keywords {H : Type} : DataW H := .slice [.lit (.string [99, 108, 97, 115, 115]), .lit (.string [101, 120, 116, 101, 110, 100, 115]), .lit (.string [114, 97, 110, 100]), .lit (.string [114, 97, 110, 100, 99]), .lit (.string [115, 116, 97, 116, 101]), .lit (.string [99, 111, 110, 115, 116, 114, 97, 105, 110, 116]), .lit (.string [115, 111, 102, 116]), .lit (.string [100, 105, 115, 116]), .lit (.string [105, 102]), .lit (.string [101, 108, 115, 101]), .lit (.string [101, 97, 99, 104]), .lit (.string [105, 110]), .lit (.string [115, 111, 108, 118, 101]), .lit (.string [98, 101, 102, 111, 114, 101]), .lit (.string [105, 110, 115, 105, 100, 101]), .lit (.string [112, 114, 111, 112, 101, 114, 116, 121]), .lit (.string [115, 101, 113]), .lit (.string [97, 110, 100]), .lit (.string [111, 114]), .lit (.string [110, 111, 116]), .lit (.string [115, 101, 116]), .lit (.string [104, 111, 108, 100]), .lit (.string [112, 108, 97, 105, 110]), .lit (.string [114, 101, 112, 101, 97, 116])] []

/-- 'testbenchlaw52.BoardExpects': WHATEVER THE INPUT: true; the input reads as it did. -/
def boardExpectsSpec : ChangeSpec := { name := "boardExpects", fn := fun _ => fun
  | [d1, d2] => { results := [.lit (.bool true)], args := [d1, d2] }
  | _ => none }
def boardExpectsRow : OpenClaim := { program := "ytldafnjbgjagiaadoor", sum := "b162f7e8cfde3142a3c2e70a1e565a34d0f659b1650510a44eabd44a01b180fa", func := "testbench/testbenchlaw52.BoardExpects", spec := "boardExpects", inPlace := ["internal/bytealg.IndexByteString", "internal/bytealg.IndexString"], unfollowed := true, recurses := true, named := ["internal/bytealg.MaxLen", "testbench/lexer.keywords", "internal/strconv.uint64pow10", "math/bits.deBruijn32tab", "math/bits.deBruijn64tab"], apart := false, laid := [("math/bits.deBruijn32tab", laid_math_bits_deBruijn32tab), ("math/bits.deBruijn64tab", laid_math_bits_deBruijn64tab), ("internal/strconv.uint64pow10", laid_internal_strconv_uint64pow10), ("testbench/lexer.keywords", laid_testbench_lexer_keywords)] }
def BoardExpectsSaid : Prop := boardExpectsRow.holds Tryd.pinned (OpenSpec.ofChange boardExpectsSpec)

/-- ITS FALSE NEIGHBOUR: 'it returns false'. Refute it at one input. -/
def boardExpectsWrong : ChangeSpec := { name := "boardExpects", fn := fun _ => fun
  | [d1, d2] => { results := [.lit (.bool false)], args := [d1, d2] }
  | _ => none }
def BoardExpectsWrongFalsely : Prop := boardExpectsRow.holds Tryd.pinned (OpenSpec.ofChange boardExpectsWrong)

/-- 'testbenchlaw52.BoardObserves': WHATEVER THE INPUT: true; the input reads as it did. -/
def boardObservesSpec : ChangeSpec := { name := "boardObserves", fn := fun _ => fun
  | [d1, d2] => { results := [.lit (.bool true)], args := [d1, d2] }
  | _ => none }
def boardObservesRow : OpenClaim := { program := "ytldafnjbgjagiaadoor", sum := "b162f7e8cfde3142a3c2e70a1e565a34d0f659b1650510a44eabd44a01b180fa", func := "testbench/testbenchlaw52.BoardObserves", spec := "boardObserves", inPlace := ["internal/bytealg.IndexByteString", "internal/bytealg.IndexString"], unfollowed := true, recurses := true, named := ["internal/bytealg.MaxLen", "testbench/lexer.keywords", "internal/strconv.uint64pow10", "math/bits.deBruijn32tab", "math/bits.deBruijn64tab"], apart := false, laid := [("math/bits.deBruijn32tab", laid_math_bits_deBruijn32tab), ("math/bits.deBruijn64tab", laid_math_bits_deBruijn64tab), ("internal/strconv.uint64pow10", laid_internal_strconv_uint64pow10), ("testbench/lexer.keywords", laid_testbench_lexer_keywords)] }
def BoardObservesSaid : Prop := boardObservesRow.holds Tryd.pinned (OpenSpec.ofChange boardObservesSpec)

/-- ITS FALSE NEIGHBOUR: 'it returns false'. Refute it at one input. -/
def boardObservesWrong : ChangeSpec := { name := "boardObserves", fn := fun _ => fun
  | [d1, d2] => { results := [.lit (.bool false)], args := [d1, d2] }
  | _ => none }
def BoardObservesWrongFalsely : Prop := boardObservesRow.holds Tryd.pinned (OpenSpec.ofChange boardObservesWrong)

/-- 'testbenchlaw52.BoardRuns': WHATEVER THE INPUT: true; the input reads as it did. -/
def boardRunsSpec : ChangeSpec := { name := "boardRuns", fn := fun _ => fun
  | [d] => { results := [.lit (.bool true)], args := [d] }
  | _ => none }
def boardRunsRow : OpenClaim := { program := "ytldafnjbgjagiaadoor", sum := "b162f7e8cfde3142a3c2e70a1e565a34d0f659b1650510a44eabd44a01b180fa", func := "testbench/testbenchlaw52.BoardRuns", spec := "boardRuns", inPlace := ["internal/bytealg.IndexByteString", "internal/bytealg.IndexString"], unfollowed := true, recurses := true, named := ["internal/bytealg.MaxLen", "testbench/lexer.keywords", "internal/strconv.uint64pow10", "math/bits.deBruijn32tab", "math/bits.deBruijn64tab"], apart := false, laid := [("math/bits.deBruijn32tab", laid_math_bits_deBruijn32tab), ("math/bits.deBruijn64tab", laid_math_bits_deBruijn64tab), ("internal/strconv.uint64pow10", laid_internal_strconv_uint64pow10), ("testbench/lexer.keywords", laid_testbench_lexer_keywords)] }
def BoardRunsSaid : Prop := boardRunsRow.holds Tryd.pinned (OpenSpec.ofChange boardRunsSpec)

/-- ITS FALSE NEIGHBOUR: 'it returns false'. Refute it at one input. -/
def boardRunsWrong : ChangeSpec := { name := "boardRuns", fn := fun _ => fun
  | [d] => { results := [.lit (.bool false)], args := [d] }
  | _ => none }
def BoardRunsWrongFalsely : Prop := boardRunsRow.holds Tryd.pinned (OpenSpec.ofChange boardRunsWrong)

/-- 'testbenchlaw52.BoardExact': WHATEVER THE INPUT: true; the input reads as it did. -/
def boardExactSpec : ChangeSpec := { name := "boardExact", fn := fun _ => fun
  | [d] => { results := [.lit (.bool true)], args := [d] }
  | _ => none }
def boardExactRow : OpenClaim := { program := "ytldafnjbgjagiaadoor", sum := "b162f7e8cfde3142a3c2e70a1e565a34d0f659b1650510a44eabd44a01b180fa", func := "testbench/testbenchlaw52.BoardExact", spec := "boardExact", inPlace := ["internal/bytealg.IndexByteString", "internal/bytealg.IndexString"], unfollowed := true, recurses := true, named := ["internal/bytealg.MaxLen", "testbench/lexer.keywords", "internal/strconv.uint64pow10", "math/bits.deBruijn32tab", "math/bits.deBruijn64tab"], apart := false, laid := [("math/bits.deBruijn32tab", laid_math_bits_deBruijn32tab), ("math/bits.deBruijn64tab", laid_math_bits_deBruijn64tab), ("internal/strconv.uint64pow10", laid_internal_strconv_uint64pow10), ("testbench/lexer.keywords", laid_testbench_lexer_keywords)] }
def BoardExactSaid : Prop := boardExactRow.holds Tryd.pinned (OpenSpec.ofChange boardExactSpec)

/-- ITS FALSE NEIGHBOUR: 'it returns false'. Refute it at one input. -/
def boardExactWrong : ChangeSpec := { name := "boardExact", fn := fun _ => fun
  | [d] => { results := [.lit (.bool false)], args := [d] }
  | _ => none }
def BoardExactWrongFalsely : Prop := boardExactRow.holds Tryd.pinned (OpenSpec.ofChange boardExactWrong)

/-- 'testbenchlaw52.BoardKeeps': WHATEVER THE INPUT: true; the input reads as it did. -/
def boardKeepsSpec : ChangeSpec := { name := "boardKeeps", fn := fun _ => fun
  | [d1, d2] => { results := [.lit (.bool true)], args := [d1, d2] }
  | _ => none }
def boardKeepsRow : OpenClaim := { program := "ytldafnjbgjagiaadoor", sum := "b162f7e8cfde3142a3c2e70a1e565a34d0f659b1650510a44eabd44a01b180fa", func := "testbench/testbenchlaw52.BoardKeeps", spec := "boardKeeps", inPlace := ["internal/bytealg.IndexByteString", "internal/bytealg.IndexString"], unfollowed := true, recurses := true, named := ["internal/bytealg.MaxLen", "testbench/lexer.keywords", "internal/strconv.uint64pow10", "math/bits.deBruijn32tab", "math/bits.deBruijn64tab"], apart := false, laid := [("math/bits.deBruijn32tab", laid_math_bits_deBruijn32tab), ("math/bits.deBruijn64tab", laid_math_bits_deBruijn64tab), ("internal/strconv.uint64pow10", laid_internal_strconv_uint64pow10), ("testbench/lexer.keywords", laid_testbench_lexer_keywords)] }
def BoardKeepsSaid : Prop := boardKeepsRow.holds Tryd.pinned (OpenSpec.ofChange boardKeepsSpec)

/-- ITS FALSE NEIGHBOUR: 'it returns false'. Refute it at one input. -/
def boardKeepsWrong : ChangeSpec := { name := "boardKeeps", fn := fun _ => fun
  | [d1, d2] => { results := [.lit (.bool false)], args := [d1, d2] }
  | _ => none }
def BoardKeepsWrongFalsely : Prop := boardKeepsRow.holds Tryd.pinned (OpenSpec.ofChange boardKeepsWrong)

/-- 'testbenchlaw52.BoardShifts': WHATEVER THE INPUT: true; the input reads as it did. -/
def boardShiftsSpec : ChangeSpec := { name := "boardShifts", fn := fun _ => fun
  | [d1, d2] => { results := [.lit (.bool true)], args := [d1, d2] }
  | _ => none }
def boardShiftsRow : OpenClaim := { program := "ytldafnjbgjagiaadoor", sum := "b162f7e8cfde3142a3c2e70a1e565a34d0f659b1650510a44eabd44a01b180fa", func := "testbench/testbenchlaw52.BoardShifts", spec := "boardShifts", inPlace := ["internal/bytealg.IndexByteString", "internal/bytealg.IndexString"], unfollowed := true, recurses := true, named := ["internal/bytealg.MaxLen", "testbench/lexer.keywords", "internal/strconv.uint64pow10", "math/bits.deBruijn32tab", "math/bits.deBruijn64tab"], apart := false, laid := [("math/bits.deBruijn32tab", laid_math_bits_deBruijn32tab), ("math/bits.deBruijn64tab", laid_math_bits_deBruijn64tab), ("internal/strconv.uint64pow10", laid_internal_strconv_uint64pow10), ("testbench/lexer.keywords", laid_testbench_lexer_keywords)] }
def BoardShiftsSaid : Prop := boardShiftsRow.holds Tryd.pinned (OpenSpec.ofChange boardShiftsSpec)

/-- ITS FALSE NEIGHBOUR: 'it returns false'. Refute it at one input. -/
def boardShiftsWrong : ChangeSpec := { name := "boardShifts", fn := fun _ => fun
  | [d1, d2] => { results := [.lit (.bool false)], args := [d1, d2] }
  | _ => none }
def BoardShiftsWrongFalsely : Prop := boardShiftsRow.holds Tryd.pinned (OpenSpec.ofChange boardShiftsWrong)

/- THE SECOND FORM. 'bulk': how many values and letters a reading holds, each counted each time it is reached (what is shared counts as often as it is met; a slice's spare places count too). A statement '..UptoSaid' is the law's where the arguments, and the package variables that the reading takes, are together of bulk at most 1048576: NARROWER than '..Said'. Prove '..Said' where nothing that the law and all that it calls make is longer than what came in: it says more and counts as full. Else prove '..UptoSaid'. A law counts once. -/
mutual
def uptoBulk {H : Type} : DataW H → Nat
  | .lit (.string bytes) => bytes.length + 1
  | .lit _ => 1
  | .nil => 1
  | .ptr d => uptoBulk d + 1
  | .slice elems spare => uptoBulkAll elems + uptoBulkAll spare + 1
  | .agg parts => uptoBulkAll parts + 1
  | .iface _ d => uptoBulk d + 1
  | .map entries => uptoBulkEntries entries + 1
  | .held _ => 1
def uptoBulkAll {H : Type} : List (DataW H) → Nat
  | [] => 0
  | d :: r => uptoBulk d + uptoBulkAll r
def uptoBulkEntries {H : Type} : List (Lit × DataW H) → Nat
  | [] => 0
  | x :: r => uptoBulkEntry x + uptoBulkEntries r
def uptoBulkEntry {H : Type} : Lit × DataW H → Nat
  | (.string bytes, d) => bytes.length + uptoBulk d + 1
  | (_, d) => uptoBulk d + 1
 end
def uptoSmall : (H : Type) → List (DataW H) → Bool := fun _ ds => decide (uptoBulkAll ds ≤ 1048576)
def OpenSpec.upto (s : _root_.Go.ChangeSpec) : _root_.Go.OpenSpec := { _root_.Go.OpenSpec.ofChange s with cond := some uptoSmall }

/-- 'testbenchlaw52.BoardExpects', WHERE WHAT IT READS IS OF BULK AT MOST 1048576: true; the input reads as it did. -/
def boardExpectsUptoRow : OpenClaim := { program := "ytldafnjbgjagiaadoor", sum := "b162f7e8cfde3142a3c2e70a1e565a34d0f659b1650510a44eabd44a01b180fa", func := "testbench/testbenchlaw52.BoardExpects", spec := "boardExpects", inPlace := ["internal/bytealg.IndexByteString", "internal/bytealg.IndexString"], unfollowed := true, recurses := true, named := ["internal/bytealg.MaxLen", "testbench/lexer.keywords", "internal/strconv.uint64pow10", "math/bits.deBruijn32tab", "math/bits.deBruijn64tab"], apart := false, laid := [("math/bits.deBruijn32tab", laid_math_bits_deBruijn32tab), ("math/bits.deBruijn64tab", laid_math_bits_deBruijn64tab), ("internal/strconv.uint64pow10", laid_internal_strconv_uint64pow10), ("testbench/lexer.keywords", laid_testbench_lexer_keywords)], narrowed := true }
def BoardExpectsUptoSaid : Prop := boardExpectsUptoRow.holds Tryd.pinned (OpenSpec.upto boardExpectsSpec)

/-- 'testbenchlaw52.BoardObserves', WHERE WHAT IT READS IS OF BULK AT MOST 1048576: true; the input reads as it did. -/
def boardObservesUptoRow : OpenClaim := { program := "ytldafnjbgjagiaadoor", sum := "b162f7e8cfde3142a3c2e70a1e565a34d0f659b1650510a44eabd44a01b180fa", func := "testbench/testbenchlaw52.BoardObserves", spec := "boardObserves", inPlace := ["internal/bytealg.IndexByteString", "internal/bytealg.IndexString"], unfollowed := true, recurses := true, named := ["internal/bytealg.MaxLen", "testbench/lexer.keywords", "internal/strconv.uint64pow10", "math/bits.deBruijn32tab", "math/bits.deBruijn64tab"], apart := false, laid := [("math/bits.deBruijn32tab", laid_math_bits_deBruijn32tab), ("math/bits.deBruijn64tab", laid_math_bits_deBruijn64tab), ("internal/strconv.uint64pow10", laid_internal_strconv_uint64pow10), ("testbench/lexer.keywords", laid_testbench_lexer_keywords)], narrowed := true }
def BoardObservesUptoSaid : Prop := boardObservesUptoRow.holds Tryd.pinned (OpenSpec.upto boardObservesSpec)

/-- 'testbenchlaw52.BoardRuns', WHERE WHAT IT READS IS OF BULK AT MOST 1048576: true; the input reads as it did. -/
def boardRunsUptoRow : OpenClaim := { program := "ytldafnjbgjagiaadoor", sum := "b162f7e8cfde3142a3c2e70a1e565a34d0f659b1650510a44eabd44a01b180fa", func := "testbench/testbenchlaw52.BoardRuns", spec := "boardRuns", inPlace := ["internal/bytealg.IndexByteString", "internal/bytealg.IndexString"], unfollowed := true, recurses := true, named := ["internal/bytealg.MaxLen", "testbench/lexer.keywords", "internal/strconv.uint64pow10", "math/bits.deBruijn32tab", "math/bits.deBruijn64tab"], apart := false, laid := [("math/bits.deBruijn32tab", laid_math_bits_deBruijn32tab), ("math/bits.deBruijn64tab", laid_math_bits_deBruijn64tab), ("internal/strconv.uint64pow10", laid_internal_strconv_uint64pow10), ("testbench/lexer.keywords", laid_testbench_lexer_keywords)], narrowed := true }
def BoardRunsUptoSaid : Prop := boardRunsUptoRow.holds Tryd.pinned (OpenSpec.upto boardRunsSpec)

/-- 'testbenchlaw52.BoardExact', WHERE WHAT IT READS IS OF BULK AT MOST 1048576: true; the input reads as it did. -/
def boardExactUptoRow : OpenClaim := { program := "ytldafnjbgjagiaadoor", sum := "b162f7e8cfde3142a3c2e70a1e565a34d0f659b1650510a44eabd44a01b180fa", func := "testbench/testbenchlaw52.BoardExact", spec := "boardExact", inPlace := ["internal/bytealg.IndexByteString", "internal/bytealg.IndexString"], unfollowed := true, recurses := true, named := ["internal/bytealg.MaxLen", "testbench/lexer.keywords", "internal/strconv.uint64pow10", "math/bits.deBruijn32tab", "math/bits.deBruijn64tab"], apart := false, laid := [("math/bits.deBruijn32tab", laid_math_bits_deBruijn32tab), ("math/bits.deBruijn64tab", laid_math_bits_deBruijn64tab), ("internal/strconv.uint64pow10", laid_internal_strconv_uint64pow10), ("testbench/lexer.keywords", laid_testbench_lexer_keywords)], narrowed := true }
def BoardExactUptoSaid : Prop := boardExactUptoRow.holds Tryd.pinned (OpenSpec.upto boardExactSpec)

/-- 'testbenchlaw52.BoardKeeps', WHERE WHAT IT READS IS OF BULK AT MOST 1048576: true; the input reads as it did. -/
def boardKeepsUptoRow : OpenClaim := { program := "ytldafnjbgjagiaadoor", sum := "b162f7e8cfde3142a3c2e70a1e565a34d0f659b1650510a44eabd44a01b180fa", func := "testbench/testbenchlaw52.BoardKeeps", spec := "boardKeeps", inPlace := ["internal/bytealg.IndexByteString", "internal/bytealg.IndexString"], unfollowed := true, recurses := true, named := ["internal/bytealg.MaxLen", "testbench/lexer.keywords", "internal/strconv.uint64pow10", "math/bits.deBruijn32tab", "math/bits.deBruijn64tab"], apart := false, laid := [("math/bits.deBruijn32tab", laid_math_bits_deBruijn32tab), ("math/bits.deBruijn64tab", laid_math_bits_deBruijn64tab), ("internal/strconv.uint64pow10", laid_internal_strconv_uint64pow10), ("testbench/lexer.keywords", laid_testbench_lexer_keywords)], narrowed := true }
def BoardKeepsUptoSaid : Prop := boardKeepsUptoRow.holds Tryd.pinned (OpenSpec.upto boardKeepsSpec)

/-- 'testbenchlaw52.BoardShifts', WHERE WHAT IT READS IS OF BULK AT MOST 1048576: true; the input reads as it did. -/
def boardShiftsUptoRow : OpenClaim := { program := "ytldafnjbgjagiaadoor", sum := "b162f7e8cfde3142a3c2e70a1e565a34d0f659b1650510a44eabd44a01b180fa", func := "testbench/testbenchlaw52.BoardShifts", spec := "boardShifts", inPlace := ["internal/bytealg.IndexByteString", "internal/bytealg.IndexString"], unfollowed := true, recurses := true, named := ["internal/bytealg.MaxLen", "testbench/lexer.keywords", "internal/strconv.uint64pow10", "math/bits.deBruijn32tab", "math/bits.deBruijn64tab"], apart := false, laid := [("math/bits.deBruijn32tab", laid_math_bits_deBruijn32tab), ("math/bits.deBruijn64tab", laid_math_bits_deBruijn64tab), ("internal/strconv.uint64pow10", laid_internal_strconv_uint64pow10), ("testbench/lexer.keywords", laid_testbench_lexer_keywords)], narrowed := true }
def BoardShiftsUptoSaid : Prop := boardShiftsUptoRow.holds Tryd.pinned (OpenSpec.upto boardShiftsSpec)

end Rows
end Go.Proofs.YtldafnjbgjagiaaDoor
