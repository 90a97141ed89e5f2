/-
  No cell of these rows narrows 'for every input' (looked for: loops, veiled, ifaces, maps, wideKeys, modest, calm, conditions, laid).
  DERIVED. THE GIVEN ROWS OF THIS SEAT. 7 by the template 'for every input the law returns true; each argument reads behind the call as it read before'; 0 by the template 'total and deterministic' (their statements: YtiiacapilffhnaaTotals.lean).
  GIVEN WITH THE SEED: the statements are not yours to turn. If you find one false, say at which input.
  Laid BY PROGRAM, IN A SANDBOX (cutbox-rows.mjs): the forced cells as the released guide's own fill.sh prints them over the translation 92380397439882e8… (all of the seat's roots in one cut). By AI agents, Wed Nov 11 2026. No macro, syntax, notation, axiom, sorry.
-/
import Derived.Test.YtiiacapilffhnaaChecked
import GoSem.Claim
import GoSem.ClaimJoined
import GoSem.ClaimMapViews
import Derived.JoinedTies
import Derived.KernelRfl
namespace Go.Proofs.Ytiiacapilffhnaa
/- THE CELL 'sum', in the pinned program and in every row, IS THE sha256 OF THE DUMP (.gsa) THAT YtiiacapilffhnaaProg.lean LOADS. Nothing in Lean hashes anything: it is a label: what it is worth is what the hold of that sum in a sandbox is worth. -/
noncomputable def Try.pinned : Pinned := { name := "ytiiacapilffhnaa", sum := "92380397439882e86c670f6210c5002e3e60922eb36065d1de23be552ecbad6b", checked := Try.checked }
namespace Rows
def none {H : Type} : Left H := { results := [], args := [] }

/-- 'testbenchlaw20.DistTotals': WHATEVER THE INPUT: true; the input reads as it did. -/
def distTotalsSpec : ChangeSpec := { name := "distTotals", fn := fun _ => fun
  | [d1, d2, d3] => { results := [.lit (.bool true)], args := [d1, d2, d3] }
  | _ => none }
def distTotalsRow : OpenClaim := { program := "ytiiacapilffhnaa", sum := "92380397439882e86c670f6210c5002e3e60922eb36065d1de23be552ecbad6b", func := "testbench/testbenchlaw20.DistTotals", spec := "distTotals", apart := false }
def DistTotalsSaid : Prop := distTotalsRow.holds Try.pinned (OpenSpec.ofChange distTotalsSpec)

/-- ITS FALSE NEIGHBOUR: 'it returns false'. Refute it at one input. -/
def distTotalsWrong : ChangeSpec := { name := "distTotals", fn := fun _ => fun
  | [d1, d2, d3] => { results := [.lit (.bool false)], args := [d1, d2, d3] }
  | _ => none }
def DistTotalsWrongFalsely : Prop := distTotalsRow.holds Try.pinned (OpenSpec.ofChange distTotalsWrong)

/-- 'testbenchlaw20.DistProbs': WHATEVER THE INPUT: true; the input reads as it did. -/
def distProbsSpec : ChangeSpec := { name := "distProbs", fn := fun _ => fun
  | [d1, d2, d3] => { results := [.lit (.bool true)], args := [d1, d2, d3] }
  | _ => none }
def distProbsRow : OpenClaim := { program := "ytiiacapilffhnaa", sum := "92380397439882e86c670f6210c5002e3e60922eb36065d1de23be552ecbad6b", func := "testbench/testbenchlaw20.DistProbs", spec := "distProbs", apart := false }
def DistProbsSaid : Prop := distProbsRow.holds Try.pinned (OpenSpec.ofChange distProbsSpec)

/-- ITS FALSE NEIGHBOUR: 'it returns false'. Refute it at one input. -/
def distProbsWrong : ChangeSpec := { name := "distProbs", fn := fun _ => fun
  | [d1, d2, d3] => { results := [.lit (.bool false)], args := [d1, d2, d3] }
  | _ => none }
def DistProbsWrongFalsely : Prop := distProbsRow.holds Try.pinned (OpenSpec.ofChange distProbsWrong)

/-- 'testbenchlaw20.DistExact': WHATEVER THE INPUT: true; the input reads as it did. -/
def distExactSpec : ChangeSpec := { name := "distExact", fn := fun _ => fun
  | [d1, d2] => { results := [.lit (.bool true)], args := [d1, d2] }
  | _ => none }
def distExactRow : OpenClaim := { program := "ytiiacapilffhnaa", sum := "92380397439882e86c670f6210c5002e3e60922eb36065d1de23be552ecbad6b", func := "testbench/testbenchlaw20.DistExact", spec := "distExact", apart := false }
def DistExactSaid : Prop := distExactRow.holds Try.pinned (OpenSpec.ofChange distExactSpec)

/-- ITS FALSE NEIGHBOUR: 'it returns false'. Refute it at one input. -/
def distExactWrong : ChangeSpec := { name := "distExact", fn := fun _ => fun
  | [d1, d2] => { results := [.lit (.bool false)], args := [d1, d2] }
  | _ => none }
def DistExactWrongFalsely : Prop := distExactRow.holds Try.pinned (OpenSpec.ofChange distExactWrong)

/-- 'testbenchlaw20.DistScales': WHATEVER THE INPUT: true; the input reads as it did. -/
def distScalesSpec : ChangeSpec := { name := "distScales", fn := fun _ => fun
  | [d] => { results := [.lit (.bool true)], args := [d] }
  | _ => none }
def distScalesRow : OpenClaim := { program := "ytiiacapilffhnaa", sum := "92380397439882e86c670f6210c5002e3e60922eb36065d1de23be552ecbad6b", func := "testbench/testbenchlaw20.DistScales", spec := "distScales", apart := false }
def DistScalesSaid : Prop := distScalesRow.holds Try.pinned (OpenSpec.ofChange distScalesSpec)

/-- ITS FALSE NEIGHBOUR: 'it returns false'. Refute it at one input. -/
def distScalesWrong : ChangeSpec := { name := "distScales", fn := fun _ => fun
  | [d] => { results := [.lit (.bool false)], args := [d] }
  | _ => none }
def DistScalesWrongFalsely : Prop := distScalesRow.holds Try.pinned (OpenSpec.ofChange distScalesWrong)

/-- 'testbenchlaw20.DistWeights': WHATEVER THE INPUT: true; the input reads as it did. -/
def distWeightsSpec : ChangeSpec := { name := "distWeights", fn := fun _ => fun
  | [d1, d2, d3] => { results := [.lit (.bool true)], args := [d1, d2, d3] }
  | _ => none }
def distWeightsRow : OpenClaim := { program := "ytiiacapilffhnaa", sum := "92380397439882e86c670f6210c5002e3e60922eb36065d1de23be552ecbad6b", func := "testbench/testbenchlaw20.DistWeights", spec := "distWeights", apart := false }
def DistWeightsSaid : Prop := distWeightsRow.holds Try.pinned (OpenSpec.ofChange distWeightsSpec)

/-- ITS FALSE NEIGHBOUR: 'it returns false'. Refute it at one input. -/
def distWeightsWrong : ChangeSpec := { name := "distWeights", fn := fun _ => fun
  | [d1, d2, d3] => { results := [.lit (.bool false)], args := [d1, d2, d3] }
  | _ => none }
def DistWeightsWrongFalsely : Prop := distWeightsRow.holds Try.pinned (OpenSpec.ofChange distWeightsWrong)

/-- 'testbenchlaw20.DistCounts': WHATEVER THE INPUT: true; the input reads as it did. -/
def distCountsSpec : ChangeSpec := { name := "distCounts", fn := fun _ => fun
  | [d1, d2] => { results := [.lit (.bool true)], args := [d1, d2] }
  | _ => none }
def distCountsRow : OpenClaim := { program := "ytiiacapilffhnaa", sum := "92380397439882e86c670f6210c5002e3e60922eb36065d1de23be552ecbad6b", func := "testbench/testbenchlaw20.DistCounts", spec := "distCounts", apart := false }
def DistCountsSaid : Prop := distCountsRow.holds Try.pinned (OpenSpec.ofChange distCountsSpec)

/-- ITS FALSE NEIGHBOUR: 'it returns false'. Refute it at one input. -/
def distCountsWrong : ChangeSpec := { name := "distCounts", fn := fun _ => fun
  | [d1, d2] => { results := [.lit (.bool false)], args := [d1, d2] }
  | _ => none }
def DistCountsWrongFalsely : Prop := distCountsRow.holds Try.pinned (OpenSpec.ofChange distCountsWrong)

/-- 'testbenchlaw20.DistKinds': WHATEVER THE INPUT: true; the input reads as it did. -/
def distKindsSpec : ChangeSpec := { name := "distKinds", fn := fun _ => fun
  | [d1, d2, d3] => { results := [.lit (.bool true)], args := [d1, d2, d3] }
  | _ => none }
def distKindsRow : OpenClaim := { program := "ytiiacapilffhnaa", sum := "92380397439882e86c670f6210c5002e3e60922eb36065d1de23be552ecbad6b", func := "testbench/testbenchlaw20.DistKinds", spec := "distKinds", apart := false }
def DistKindsSaid : Prop := distKindsRow.holds Try.pinned (OpenSpec.ofChange distKindsSpec)

/-- ITS FALSE NEIGHBOUR: 'it returns false'. Refute it at one input. -/
def distKindsWrong : ChangeSpec := { name := "distKinds", fn := fun _ => fun
  | [d1, d2, d3] => { results := [.lit (.bool false)], args := [d1, d2, d3] }
  | _ => none }
def DistKindsWrongFalsely : Prop := distKindsRow.holds Try.pinned (OpenSpec.ofChange distKindsWrong)

/- THE SECOND FORM. 'bulk': how many values and letters a reading holds, each counted each time it is reached (what is shared counts as often as it is met; a slice's spare places count too). A statement '..UptoSaid' is the law's where the arguments, and the package variables that the reading takes, are together of bulk at most 1048576: NARROWER than '..Said'. Prove '..Said' where nothing that the law and all that it calls make is longer than what came in: it says more and counts as full. Else prove '..UptoSaid'. A law counts once. -/
mutual
def uptoBulk {H : Type} : DataW H → Nat
  | .lit (.string bytes) => bytes.length + 1
  | .lit _ => 1
  | .nil => 1
  | .ptr d => uptoBulk d + 1
  | .slice elems spare => uptoBulkAll elems + uptoBulkAll spare + 1
  | .agg parts => uptoBulkAll parts + 1
  | .iface _ d => uptoBulk d + 1
  | .map entries => uptoBulkEntries entries + 1
  | .held _ => 1
def uptoBulkAll {H : Type} : List (DataW H) → Nat
  | [] => 0
  | d :: r => uptoBulk d + uptoBulkAll r
def uptoBulkEntries {H : Type} : List (Lit × DataW H) → Nat
  | [] => 0
  | x :: r => uptoBulkEntry x + uptoBulkEntries r
def uptoBulkEntry {H : Type} : Lit × DataW H → Nat
  | (.string bytes, d) => bytes.length + uptoBulk d + 1
  | (_, d) => uptoBulk d + 1
 end
def uptoSmall : (H : Type) → List (DataW H) → Bool := fun _ ds => decide (uptoBulkAll ds ≤ 1048576)
def OpenSpec.upto (s : _root_.Go.ChangeSpec) : _root_.Go.OpenSpec := { _root_.Go.OpenSpec.ofChange s with cond := some uptoSmall }

/-- 'testbenchlaw20.DistTotals', WHERE WHAT IT READS IS OF BULK AT MOST 1048576: true; the input reads as it did. -/
def distTotalsUptoRow : OpenClaim := { program := "ytiiacapilffhnaa", sum := "92380397439882e86c670f6210c5002e3e60922eb36065d1de23be552ecbad6b", func := "testbench/testbenchlaw20.DistTotals", spec := "distTotals", apart := false, narrowed := true }
def DistTotalsUptoSaid : Prop := distTotalsUptoRow.holds Try.pinned (OpenSpec.upto distTotalsSpec)

/-- 'testbenchlaw20.DistProbs', WHERE WHAT IT READS IS OF BULK AT MOST 1048576: true; the input reads as it did. -/
def distProbsUptoRow : OpenClaim := { program := "ytiiacapilffhnaa", sum := "92380397439882e86c670f6210c5002e3e60922eb36065d1de23be552ecbad6b", func := "testbench/testbenchlaw20.DistProbs", spec := "distProbs", apart := false, narrowed := true }
def DistProbsUptoSaid : Prop := distProbsUptoRow.holds Try.pinned (OpenSpec.upto distProbsSpec)

/-- 'testbenchlaw20.DistExact', WHERE WHAT IT READS IS OF BULK AT MOST 1048576: true; the input reads as it did. -/
def distExactUptoRow : OpenClaim := { program := "ytiiacapilffhnaa", sum := "92380397439882e86c670f6210c5002e3e60922eb36065d1de23be552ecbad6b", func := "testbench/testbenchlaw20.DistExact", spec := "distExact", apart := false, narrowed := true }
def DistExactUptoSaid : Prop := distExactUptoRow.holds Try.pinned (OpenSpec.upto distExactSpec)

/-- 'testbenchlaw20.DistScales', WHERE WHAT IT READS IS OF BULK AT MOST 1048576: true; the input reads as it did. -/
def distScalesUptoRow : OpenClaim := { program := "ytiiacapilffhnaa", sum := "92380397439882e86c670f6210c5002e3e60922eb36065d1de23be552ecbad6b", func := "testbench/testbenchlaw20.DistScales", spec := "distScales", apart := false, narrowed := true }
def DistScalesUptoSaid : Prop := distScalesUptoRow.holds Try.pinned (OpenSpec.upto distScalesSpec)

/-- 'testbenchlaw20.DistWeights', WHERE WHAT IT READS IS OF BULK AT MOST 1048576: true; the input reads as it did. -/
def distWeightsUptoRow : OpenClaim := { program := "ytiiacapilffhnaa", sum := "92380397439882e86c670f6210c5002e3e60922eb36065d1de23be552ecbad6b", func := "testbench/testbenchlaw20.DistWeights", spec := "distWeights", apart := false, narrowed := true }
def DistWeightsUptoSaid : Prop := distWeightsUptoRow.holds Try.pinned (OpenSpec.upto distWeightsSpec)

/-- 'testbenchlaw20.DistCounts', WHERE WHAT IT READS IS OF BULK AT MOST 1048576: true; the input reads as it did. -/
def distCountsUptoRow : OpenClaim := { program := "ytiiacapilffhnaa", sum := "92380397439882e86c670f6210c5002e3e60922eb36065d1de23be552ecbad6b", func := "testbench/testbenchlaw20.DistCounts", spec := "distCounts", apart := false, narrowed := true }
def DistCountsUptoSaid : Prop := distCountsUptoRow.holds Try.pinned (OpenSpec.upto distCountsSpec)

/-- 'testbenchlaw20.DistKinds', WHERE WHAT IT READS IS OF BULK AT MOST 1048576: true; the input reads as it did. -/
def distKindsUptoRow : OpenClaim := { program := "ytiiacapilffhnaa", sum := "92380397439882e86c670f6210c5002e3e60922eb36065d1de23be552ecbad6b", func := "testbench/testbenchlaw20.DistKinds", spec := "distKinds", apart := false, narrowed := true }
def DistKindsUptoSaid : Prop := distKindsUptoRow.holds Try.pinned (OpenSpec.upto distKindsSpec)

end Rows
end Go.Proofs.Ytiiacapilffhnaa
