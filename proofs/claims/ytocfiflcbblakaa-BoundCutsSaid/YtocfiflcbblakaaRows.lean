/-
  No cell of these rows narrows 'for every input' (looked for: loops, veiled, ifaces, maps, wideKeys, modest, calm, conditions, laid).
  DERIVED. THE GIVEN ROWS OF THIS SEAT. 8 by the template 'for every input the law returns true; each argument reads behind the call as it read before'; 0 by the template 'total and deterministic' (their statements: YtocfiflcbblakaaTotals.lean).
  GIVEN WITH THE SEED: the statements are not yours to turn. If you find one false, say at which input.
  Laid BY PROGRAM, IN A SANDBOX (cutbox-rows.mjs): the forced cells as the released guide's own fill.sh prints them over the translation 0962aabed97c3b1b… (all of the seat's roots in one cut). By AI agents, Wed Nov 11 2026. No macro, syntax, notation, axiom, sorry.
-/
import Derived.Test.YtocfiflcbblakaaChecked
import GoSem.Claim
import GoSem.ClaimJoined
import GoSem.ClaimMapViews
import Derived.JoinedTies
import Derived.KernelRfl
namespace Go.Proofs.Ytocfiflcbblakaa
/- THE CELL 'sum', in the pinned program and in every row, IS THE sha256 OF THE DUMP (.gsa) THAT YtocfiflcbblakaaProg.lean LOADS. Nothing in Lean hashes anything: it is a label: what it is worth is what the hold of that sum in a sandbox is worth. -/
noncomputable def Try.pinned : Pinned := { name := "ytocfiflcbblakaa", sum := "0962aabed97c3b1b5e91f97774636004fa624c3b6d1e9fd8c4288f94290656d0", checked := Try.checked }
namespace Rows
def none {H : Type} : Left H := { results := [], args := [] }

/-- 'furlonglaw02.BoundCuts': WHATEVER THE INPUT: true; the input reads as it did. -/
def boundCutsSpec : ChangeSpec := { name := "boundCuts", fn := fun _ => fun
  | [d1, d2, d3] => { results := [.lit (.bool true)], args := [d1, d2, d3] }
  | _ => none }
def boundCutsRow : OpenClaim := { program := "ytocfiflcbblakaa", sum := "0962aabed97c3b1b5e91f97774636004fa624c3b6d1e9fd8c4288f94290656d0", func := "furlong/furlonglaw02.BoundCuts", spec := "boundCuts", inPlace := ["internal/abi.NoEscape", "internal/bytealg.MakeNoZero"], apart := false }
def BoundCutsSaid : Prop := boundCutsRow.holds Try.pinned (OpenSpec.ofChange boundCutsSpec)

/-- ITS FALSE NEIGHBOUR: 'it returns false'. Refute it at one input. -/
def boundCutsWrong : ChangeSpec := { name := "boundCuts", fn := fun _ => fun
  | [d1, d2, d3] => { results := [.lit (.bool false)], args := [d1, d2, d3] }
  | _ => none }
def BoundCutsWrongFalsely : Prop := boundCutsRow.holds Try.pinned (OpenSpec.ofChange boundCutsWrong)

/-- 'furlonglaw02.BoundWhole': WHATEVER THE INPUT: true; the input reads as it did. -/
def boundWholeSpec : ChangeSpec := { name := "boundWhole", fn := fun _ => fun
  | [d] => { results := [.lit (.bool true)], args := [d] }
  | _ => none }
def boundWholeRow : OpenClaim := { program := "ytocfiflcbblakaa", sum := "0962aabed97c3b1b5e91f97774636004fa624c3b6d1e9fd8c4288f94290656d0", func := "furlong/furlonglaw02.BoundWhole", spec := "boundWhole", inPlace := ["internal/abi.NoEscape", "internal/bytealg.MakeNoZero"], apart := false }
def BoundWholeSaid : Prop := boundWholeRow.holds Try.pinned (OpenSpec.ofChange boundWholeSpec)

/-- ITS FALSE NEIGHBOUR: 'it returns false'. Refute it at one input. -/
def boundWholeWrong : ChangeSpec := { name := "boundWhole", fn := fun _ => fun
  | [d] => { results := [.lit (.bool false)], args := [d] }
  | _ => none }
def BoundWholeWrongFalsely : Prop := boundWholeRow.holds Try.pinned (OpenSpec.ofChange boundWholeWrong)

/-- 'furlonglaw02.BoundMeta': WHATEVER THE INPUT: true; the input reads as it did. -/
def boundMetaSpec : ChangeSpec := { name := "boundMeta", fn := fun _ => fun
  | [d1, d2] => { results := [.lit (.bool true)], args := [d1, d2] }
  | _ => none }
def boundMetaRow : OpenClaim := { program := "ytocfiflcbblakaa", sum := "0962aabed97c3b1b5e91f97774636004fa624c3b6d1e9fd8c4288f94290656d0", func := "furlong/furlonglaw02.BoundMeta", spec := "boundMeta", inPlace := ["internal/abi.NoEscape", "internal/bytealg.MakeNoZero"], apart := false }
def BoundMetaSaid : Prop := boundMetaRow.holds Try.pinned (OpenSpec.ofChange boundMetaSpec)

/-- ITS FALSE NEIGHBOUR: 'it returns false'. Refute it at one input. -/
def boundMetaWrong : ChangeSpec := { name := "boundMeta", fn := fun _ => fun
  | [d1, d2] => { results := [.lit (.bool false)], args := [d1, d2] }
  | _ => none }
def BoundMetaWrongFalsely : Prop := boundMetaRow.holds Try.pinned (OpenSpec.ofChange boundMetaWrong)

/-- 'furlonglaw02.BoundOnce': WHATEVER THE INPUT: true; the input reads as it did. -/
def boundOnceSpec : ChangeSpec := { name := "boundOnce", fn := fun _ => fun
  | [d1, d2, d3] => { results := [.lit (.bool true)], args := [d1, d2, d3] }
  | _ => none }
def boundOnceRow : OpenClaim := { program := "ytocfiflcbblakaa", sum := "0962aabed97c3b1b5e91f97774636004fa624c3b6d1e9fd8c4288f94290656d0", func := "furlong/furlonglaw02.BoundOnce", spec := "boundOnce", inPlace := ["internal/abi.NoEscape", "internal/bytealg.MakeNoZero"], apart := false }
def BoundOnceSaid : Prop := boundOnceRow.holds Try.pinned (OpenSpec.ofChange boundOnceSpec)

/-- ITS FALSE NEIGHBOUR: 'it returns false'. Refute it at one input. -/
def boundOnceWrong : ChangeSpec := { name := "boundOnce", fn := fun _ => fun
  | [d1, d2, d3] => { results := [.lit (.bool false)], args := [d1, d2, d3] }
  | _ => none }
def BoundOnceWrongFalsely : Prop := boundOnceRow.holds Try.pinned (OpenSpec.ofChange boundOnceWrong)

/-- 'furlonglaw02.BoundSearch': WHATEVER THE INPUT: true; the input reads as it did. -/
def boundSearchSpec : ChangeSpec := { name := "boundSearch", fn := fun _ => fun
  | [d1, d2, d3] => { results := [.lit (.bool true)], args := [d1, d2, d3] }
  | _ => none }
def boundSearchRow : OpenClaim := { program := "ytocfiflcbblakaa", sum := "0962aabed97c3b1b5e91f97774636004fa624c3b6d1e9fd8c4288f94290656d0", func := "furlong/furlonglaw02.BoundSearch", spec := "boundSearch", inPlace := ["internal/abi.NoEscape", "internal/bytealg.MakeNoZero"], apart := false }
def BoundSearchSaid : Prop := boundSearchRow.holds Try.pinned (OpenSpec.ofChange boundSearchSpec)

/-- ITS FALSE NEIGHBOUR: 'it returns false'. Refute it at one input. -/
def boundSearchWrong : ChangeSpec := { name := "boundSearch", fn := fun _ => fun
  | [d1, d2, d3] => { results := [.lit (.bool false)], args := [d1, d2, d3] }
  | _ => none }
def BoundSearchWrongFalsely : Prop := boundSearchRow.holds Try.pinned (OpenSpec.ofChange boundSearchWrong)

/-- 'furlonglaw02.BoundChecks': WHATEVER THE INPUT: true; the input reads as it did. -/
def boundChecksSpec : ChangeSpec := { name := "boundChecks", fn := fun _ => fun
  | [d1, d2, d3] => { results := [.lit (.bool true)], args := [d1, d2, d3] }
  | _ => none }
def boundChecksRow : OpenClaim := { program := "ytocfiflcbblakaa", sum := "0962aabed97c3b1b5e91f97774636004fa624c3b6d1e9fd8c4288f94290656d0", func := "furlong/furlonglaw02.BoundChecks", spec := "boundChecks", inPlace := ["internal/abi.NoEscape", "internal/bytealg.MakeNoZero"], apart := false }
def BoundChecksSaid : Prop := boundChecksRow.holds Try.pinned (OpenSpec.ofChange boundChecksSpec)

/-- ITS FALSE NEIGHBOUR: 'it returns false'. Refute it at one input. -/
def boundChecksWrong : ChangeSpec := { name := "boundChecks", fn := fun _ => fun
  | [d1, d2, d3] => { results := [.lit (.bool false)], args := [d1, d2, d3] }
  | _ => none }
def BoundChecksWrongFalsely : Prop := boundChecksRow.holds Try.pinned (OpenSpec.ofChange boundChecksWrong)

/-- 'furlonglaw02.BoundParts': WHATEVER THE INPUT: true; the input reads as it did. -/
def boundPartsSpec : ChangeSpec := { name := "boundParts", fn := fun _ => fun
  | [d1, d2, d3] => { results := [.lit (.bool true)], args := [d1, d2, d3] }
  | _ => none }
def boundPartsRow : OpenClaim := { program := "ytocfiflcbblakaa", sum := "0962aabed97c3b1b5e91f97774636004fa624c3b6d1e9fd8c4288f94290656d0", func := "furlong/furlonglaw02.BoundParts", spec := "boundParts", inPlace := ["internal/abi.NoEscape", "internal/bytealg.MakeNoZero"], apart := false }
def BoundPartsSaid : Prop := boundPartsRow.holds Try.pinned (OpenSpec.ofChange boundPartsSpec)

/-- ITS FALSE NEIGHBOUR: 'it returns false'. Refute it at one input. -/
def boundPartsWrong : ChangeSpec := { name := "boundParts", fn := fun _ => fun
  | [d1, d2, d3] => { results := [.lit (.bool false)], args := [d1, d2, d3] }
  | _ => none }
def BoundPartsWrongFalsely : Prop := boundPartsRow.holds Try.pinned (OpenSpec.ofChange boundPartsWrong)

/-- 'furlonglaw02.BoundPairs': WHATEVER THE INPUT: true; the input reads as it did. -/
def boundPairsSpec : ChangeSpec := { name := "boundPairs", fn := fun _ => fun
  | [d1, d2, d3] => { results := [.lit (.bool true)], args := [d1, d2, d3] }
  | _ => none }
def boundPairsRow : OpenClaim := { program := "ytocfiflcbblakaa", sum := "0962aabed97c3b1b5e91f97774636004fa624c3b6d1e9fd8c4288f94290656d0", func := "furlong/furlonglaw02.BoundPairs", spec := "boundPairs", inPlace := ["internal/abi.NoEscape", "internal/bytealg.MakeNoZero"], apart := false }
def BoundPairsSaid : Prop := boundPairsRow.holds Try.pinned (OpenSpec.ofChange boundPairsSpec)

/-- ITS FALSE NEIGHBOUR: 'it returns false'. Refute it at one input. -/
def boundPairsWrong : ChangeSpec := { name := "boundPairs", fn := fun _ => fun
  | [d1, d2, d3] => { results := [.lit (.bool false)], args := [d1, d2, d3] }
  | _ => none }
def BoundPairsWrongFalsely : Prop := boundPairsRow.holds Try.pinned (OpenSpec.ofChange boundPairsWrong)

/- THE SECOND FORM. 'bulk': how many values and letters a reading holds, each counted each time it is reached (what is shared counts as often as it is met; a slice's spare places count too). A statement '..UptoSaid' is the law's where the arguments, and the package variables that the reading takes, are together of bulk at most 1048576: NARROWER than '..Said'. Prove '..Said' where nothing that the law and all that it calls make is longer than what came in: it says more and counts as full. Else prove '..UptoSaid'. A law counts once. -/
mutual
def uptoBulk {H : Type} : DataW H → Nat
  | .lit (.string bytes) => bytes.length + 1
  | .lit _ => 1
  | .nil => 1
  | .ptr d => uptoBulk d + 1
  | .slice elems spare => uptoBulkAll elems + uptoBulkAll spare + 1
  | .agg parts => uptoBulkAll parts + 1
  | .iface _ d => uptoBulk d + 1
  | .map entries => uptoBulkEntries entries + 1
  | .held _ => 1
def uptoBulkAll {H : Type} : List (DataW H) → Nat
  | [] => 0
  | d :: r => uptoBulk d + uptoBulkAll r
def uptoBulkEntries {H : Type} : List (Lit × DataW H) → Nat
  | [] => 0
  | x :: r => uptoBulkEntry x + uptoBulkEntries r
def uptoBulkEntry {H : Type} : Lit × DataW H → Nat
  | (.string bytes, d) => bytes.length + uptoBulk d + 1
  | (_, d) => uptoBulk d + 1
 end
def uptoSmall : (H : Type) → List (DataW H) → Bool := fun _ ds => decide (uptoBulkAll ds ≤ 1048576)
def OpenSpec.upto (s : _root_.Go.ChangeSpec) : _root_.Go.OpenSpec := { _root_.Go.OpenSpec.ofChange s with cond := some uptoSmall }

/-- 'furlonglaw02.BoundCuts', WHERE WHAT IT READS IS OF BULK AT MOST 1048576: true; the input reads as it did. -/
def boundCutsUptoRow : OpenClaim := { program := "ytocfiflcbblakaa", sum := "0962aabed97c3b1b5e91f97774636004fa624c3b6d1e9fd8c4288f94290656d0", func := "furlong/furlonglaw02.BoundCuts", spec := "boundCuts", inPlace := ["internal/abi.NoEscape", "internal/bytealg.MakeNoZero"], apart := false, narrowed := true }
def BoundCutsUptoSaid : Prop := boundCutsUptoRow.holds Try.pinned (OpenSpec.upto boundCutsSpec)

/-- 'furlonglaw02.BoundWhole', WHERE WHAT IT READS IS OF BULK AT MOST 1048576: true; the input reads as it did. -/
def boundWholeUptoRow : OpenClaim := { program := "ytocfiflcbblakaa", sum := "0962aabed97c3b1b5e91f97774636004fa624c3b6d1e9fd8c4288f94290656d0", func := "furlong/furlonglaw02.BoundWhole", spec := "boundWhole", inPlace := ["internal/abi.NoEscape", "internal/bytealg.MakeNoZero"], apart := false, narrowed := true }
def BoundWholeUptoSaid : Prop := boundWholeUptoRow.holds Try.pinned (OpenSpec.upto boundWholeSpec)

/-- 'furlonglaw02.BoundMeta', WHERE WHAT IT READS IS OF BULK AT MOST 1048576: true; the input reads as it did. -/
def boundMetaUptoRow : OpenClaim := { program := "ytocfiflcbblakaa", sum := "0962aabed97c3b1b5e91f97774636004fa624c3b6d1e9fd8c4288f94290656d0", func := "furlong/furlonglaw02.BoundMeta", spec := "boundMeta", inPlace := ["internal/abi.NoEscape", "internal/bytealg.MakeNoZero"], apart := false, narrowed := true }
def BoundMetaUptoSaid : Prop := boundMetaUptoRow.holds Try.pinned (OpenSpec.upto boundMetaSpec)

/-- 'furlonglaw02.BoundOnce', WHERE WHAT IT READS IS OF BULK AT MOST 1048576: true; the input reads as it did. -/
def boundOnceUptoRow : OpenClaim := { program := "ytocfiflcbblakaa", sum := "0962aabed97c3b1b5e91f97774636004fa624c3b6d1e9fd8c4288f94290656d0", func := "furlong/furlonglaw02.BoundOnce", spec := "boundOnce", inPlace := ["internal/abi.NoEscape", "internal/bytealg.MakeNoZero"], apart := false, narrowed := true }
def BoundOnceUptoSaid : Prop := boundOnceUptoRow.holds Try.pinned (OpenSpec.upto boundOnceSpec)

/-- 'furlonglaw02.BoundSearch', WHERE WHAT IT READS IS OF BULK AT MOST 1048576: true; the input reads as it did. -/
def boundSearchUptoRow : OpenClaim := { program := "ytocfiflcbblakaa", sum := "0962aabed97c3b1b5e91f97774636004fa624c3b6d1e9fd8c4288f94290656d0", func := "furlong/furlonglaw02.BoundSearch", spec := "boundSearch", inPlace := ["internal/abi.NoEscape", "internal/bytealg.MakeNoZero"], apart := false, narrowed := true }
def BoundSearchUptoSaid : Prop := boundSearchUptoRow.holds Try.pinned (OpenSpec.upto boundSearchSpec)

/-- 'furlonglaw02.BoundChecks', WHERE WHAT IT READS IS OF BULK AT MOST 1048576: true; the input reads as it did. -/
def boundChecksUptoRow : OpenClaim := { program := "ytocfiflcbblakaa", sum := "0962aabed97c3b1b5e91f97774636004fa624c3b6d1e9fd8c4288f94290656d0", func := "furlong/furlonglaw02.BoundChecks", spec := "boundChecks", inPlace := ["internal/abi.NoEscape", "internal/bytealg.MakeNoZero"], apart := false, narrowed := true }
def BoundChecksUptoSaid : Prop := boundChecksUptoRow.holds Try.pinned (OpenSpec.upto boundChecksSpec)

/-- 'furlonglaw02.BoundParts', WHERE WHAT IT READS IS OF BULK AT MOST 1048576: true; the input reads as it did. -/
def boundPartsUptoRow : OpenClaim := { program := "ytocfiflcbblakaa", sum := "0962aabed97c3b1b5e91f97774636004fa624c3b6d1e9fd8c4288f94290656d0", func := "furlong/furlonglaw02.BoundParts", spec := "boundParts", inPlace := ["internal/abi.NoEscape", "internal/bytealg.MakeNoZero"], apart := false, narrowed := true }
def BoundPartsUptoSaid : Prop := boundPartsUptoRow.holds Try.pinned (OpenSpec.upto boundPartsSpec)

/-- 'furlonglaw02.BoundPairs', WHERE WHAT IT READS IS OF BULK AT MOST 1048576: true; the input reads as it did. -/
def boundPairsUptoRow : OpenClaim := { program := "ytocfiflcbblakaa", sum := "0962aabed97c3b1b5e91f97774636004fa624c3b6d1e9fd8c4288f94290656d0", func := "furlong/furlonglaw02.BoundPairs", spec := "boundPairs", inPlace := ["internal/abi.NoEscape", "internal/bytealg.MakeNoZero"], apart := false, narrowed := true }
def BoundPairsUptoSaid : Prop := boundPairsUptoRow.holds Try.pinned (OpenSpec.upto boundPairsSpec)

end Rows
end Go.Proofs.Ytocfiflcbblakaa
