/-
  No cell of these rows narrows 'for every input' (looked for: loops, veiled, ifaces, maps, wideKeys, modest, calm, conditions, laid).
  DERIVED. THE GIVEN ROWS OF THIS SEAT. 6 by the template 'for every input the law returns true; each argument reads behind the call as it read before'; 0 by the template 'total and deterministic' (their statements: YtjmddbhbibmjdaaTotals.lean).
  GIVEN WITH THE SEED: the statements are not yours to turn. If you find one false, say at which input.
  Laid BY PROGRAM, IN A SANDBOX (cutbox-rows.mjs): the forced cells as the released guide's own fill.sh prints them over the translation 40c43cc0627abe53… (all of the seat's roots in one cut). By AI agents, Wed Nov 11 2026. No macro, syntax, notation, axiom, sorry.
-/
import Derived.Test.YtjmddbhbibmjdaaChecked
import GoSem.Claim
import GoSem.ClaimJoined
import GoSem.ClaimMapViews
import Derived.JoinedTies
import Derived.KernelRfl
namespace Go.Proofs.Ytjmddbhbibmjdaa
/- THE CELL 'sum', in the pinned program and in every row, IS THE sha256 OF THE DUMP (.gsa) THAT YtjmddbhbibmjdaaProg.lean LOADS. Nothing in Lean hashes anything: it is a label: what it is worth is what the hold of that sum in a sandbox is worth. -/
noncomputable def Try.pinned : Pinned := { name := "ytjmddbhbibmjdaa", sum := "40c43cc0627abe536eb28f9655b6234ff736ebda4e2e371515960e80977ecce3", checked := Try.checked }
namespace Rows
def none {H : Type} : Left H := { results := [], args := [] }

/-- 'furlonglaw03.ReelSafe': WHATEVER THE INPUT: true; the input reads as it did. -/
def reelSafeSpec : ChangeSpec := { name := "reelSafe", fn := fun _ => fun
  | [d1, d2, d3, d4, d5] => { results := [.lit (.bool true)], args := [d1, d2, d3, d4, d5] }
  | _ => none }
def reelSafeRow : OpenClaim := { program := "ytjmddbhbibmjdaa", sum := "40c43cc0627abe536eb28f9655b6234ff736ebda4e2e371515960e80977ecce3", func := "furlong/furlonglaw03.ReelSafe", spec := "reelSafe", apart := false }
def ReelSafeSaid : Prop := reelSafeRow.holds Try.pinned (OpenSpec.ofChange reelSafeSpec)

/-- ITS FALSE NEIGHBOUR: 'it returns false'. Refute it at one input. -/
def reelSafeWrong : ChangeSpec := { name := "reelSafe", fn := fun _ => fun
  | [d1, d2, d3, d4, d5] => { results := [.lit (.bool false)], args := [d1, d2, d3, d4, d5] }
  | _ => none }
def ReelSafeWrongFalsely : Prop := reelSafeRow.holds Try.pinned (OpenSpec.ofChange reelSafeWrong)

/-- 'furlonglaw03.ReelArmed': WHATEVER THE INPUT: true; the input reads as it did. -/
def reelArmedSpec : ChangeSpec := { name := "reelArmed", fn := fun _ => fun
  | [d1, d2] => { results := [.lit (.bool true)], args := [d1, d2] }
  | _ => none }
def reelArmedRow : OpenClaim := { program := "ytjmddbhbibmjdaa", sum := "40c43cc0627abe536eb28f9655b6234ff736ebda4e2e371515960e80977ecce3", func := "furlong/furlonglaw03.ReelArmed", spec := "reelArmed", apart := false }
def ReelArmedSaid : Prop := reelArmedRow.holds Try.pinned (OpenSpec.ofChange reelArmedSpec)

/-- ITS FALSE NEIGHBOUR: 'it returns false'. Refute it at one input. -/
def reelArmedWrong : ChangeSpec := { name := "reelArmed", fn := fun _ => fun
  | [d1, d2] => { results := [.lit (.bool false)], args := [d1, d2] }
  | _ => none }
def ReelArmedWrongFalsely : Prop := reelArmedRow.holds Try.pinned (OpenSpec.ofChange reelArmedWrong)

/-- 'furlonglaw03.ReelPlays': WHATEVER THE INPUT: true; the input reads as it did. -/
def reelPlaysSpec : ChangeSpec := { name := "reelPlays", fn := fun _ => fun
  | [d1, d2] => { results := [.lit (.bool true)], args := [d1, d2] }
  | _ => none }
def reelPlaysRow : OpenClaim := { program := "ytjmddbhbibmjdaa", sum := "40c43cc0627abe536eb28f9655b6234ff736ebda4e2e371515960e80977ecce3", func := "furlong/furlonglaw03.ReelPlays", spec := "reelPlays", apart := false }
def ReelPlaysSaid : Prop := reelPlaysRow.holds Try.pinned (OpenSpec.ofChange reelPlaysSpec)

/-- ITS FALSE NEIGHBOUR: 'it returns false'. Refute it at one input. -/
def reelPlaysWrong : ChangeSpec := { name := "reelPlays", fn := fun _ => fun
  | [d1, d2] => { results := [.lit (.bool false)], args := [d1, d2] }
  | _ => none }
def ReelPlaysWrongFalsely : Prop := reelPlaysRow.holds Try.pinned (OpenSpec.ofChange reelPlaysWrong)

/-- 'furlonglaw03.ReelTrims': WHATEVER THE INPUT: true; the input reads as it did. -/
def reelTrimsSpec : ChangeSpec := { name := "reelTrims", fn := fun _ => fun
  | [d1, d2, d3, d4] => { results := [.lit (.bool true)], args := [d1, d2, d3, d4] }
  | _ => none }
def reelTrimsRow : OpenClaim := { program := "ytjmddbhbibmjdaa", sum := "40c43cc0627abe536eb28f9655b6234ff736ebda4e2e371515960e80977ecce3", func := "furlong/furlonglaw03.ReelTrims", spec := "reelTrims", apart := false }
def ReelTrimsSaid : Prop := reelTrimsRow.holds Try.pinned (OpenSpec.ofChange reelTrimsSpec)

/-- ITS FALSE NEIGHBOUR: 'it returns false'. Refute it at one input. -/
def reelTrimsWrong : ChangeSpec := { name := "reelTrims", fn := fun _ => fun
  | [d1, d2, d3, d4] => { results := [.lit (.bool false)], args := [d1, d2, d3, d4] }
  | _ => none }
def ReelTrimsWrongFalsely : Prop := reelTrimsRow.holds Try.pinned (OpenSpec.ofChange reelTrimsWrong)

/-- 'furlonglaw03.ReelNil': WHATEVER THE INPUT: true; the input reads as it did. -/
def reelNilSpec : ChangeSpec := { name := "reelNil", fn := fun _ => fun
  | [d1, d2] => { results := [.lit (.bool true)], args := [d1, d2] }
  | _ => none }
def reelNilRow : OpenClaim := { program := "ytjmddbhbibmjdaa", sum := "40c43cc0627abe536eb28f9655b6234ff736ebda4e2e371515960e80977ecce3", func := "furlong/furlonglaw03.ReelNil", spec := "reelNil", apart := false }
def ReelNilSaid : Prop := reelNilRow.holds Try.pinned (OpenSpec.ofChange reelNilSpec)

/-- ITS FALSE NEIGHBOUR: 'it returns false'. Refute it at one input. -/
def reelNilWrong : ChangeSpec := { name := "reelNil", fn := fun _ => fun
  | [d1, d2] => { results := [.lit (.bool false)], args := [d1, d2] }
  | _ => none }
def ReelNilWrongFalsely : Prop := reelNilRow.holds Try.pinned (OpenSpec.ofChange reelNilWrong)

/-- 'furlonglaw03.ReelRoom': WHATEVER THE INPUT: true; the input reads as it did. -/
def reelRoomSpec : ChangeSpec := { name := "reelRoom", fn := fun _ => fun
  | [d1, d2] => { results := [.lit (.bool true)], args := [d1, d2] }
  | _ => none }
def reelRoomRow : OpenClaim := { program := "ytjmddbhbibmjdaa", sum := "40c43cc0627abe536eb28f9655b6234ff736ebda4e2e371515960e80977ecce3", func := "furlong/furlonglaw03.ReelRoom", spec := "reelRoom", apart := false }
def ReelRoomSaid : Prop := reelRoomRow.holds Try.pinned (OpenSpec.ofChange reelRoomSpec)

/-- ITS FALSE NEIGHBOUR: 'it returns false'. Refute it at one input. -/
def reelRoomWrong : ChangeSpec := { name := "reelRoom", fn := fun _ => fun
  | [d1, d2] => { results := [.lit (.bool false)], args := [d1, d2] }
  | _ => none }
def ReelRoomWrongFalsely : Prop := reelRoomRow.holds Try.pinned (OpenSpec.ofChange reelRoomWrong)

/- THE SECOND FORM. 'bulk': how many values and letters a reading holds, each counted each time it is reached (what is shared counts as often as it is met; a slice's spare places count too). A statement '..UptoSaid' is the law's where the arguments, and the package variables that the reading takes, are together of bulk at most 1048576: NARROWER than '..Said'. Prove '..Said' where nothing that the law and all that it calls make is longer than what came in: it says more and counts as full. Else prove '..UptoSaid'. A law counts once. -/
mutual
def uptoBulk {H : Type} : DataW H → Nat
  | .lit (.string bytes) => bytes.length + 1
  | .lit _ => 1
  | .nil => 1
  | .ptr d => uptoBulk d + 1
  | .slice elems spare => uptoBulkAll elems + uptoBulkAll spare + 1
  | .agg parts => uptoBulkAll parts + 1
  | .iface _ d => uptoBulk d + 1
  | .map entries => uptoBulkEntries entries + 1
  | .held _ => 1
def uptoBulkAll {H : Type} : List (DataW H) → Nat
  | [] => 0
  | d :: r => uptoBulk d + uptoBulkAll r
def uptoBulkEntries {H : Type} : List (Lit × DataW H) → Nat
  | [] => 0
  | x :: r => uptoBulkEntry x + uptoBulkEntries r
def uptoBulkEntry {H : Type} : Lit × DataW H → Nat
  | (.string bytes, d) => bytes.length + uptoBulk d + 1
  | (_, d) => uptoBulk d + 1
 end
def uptoSmall : (H : Type) → List (DataW H) → Bool := fun _ ds => decide (uptoBulkAll ds ≤ 1048576)
def OpenSpec.upto (s : _root_.Go.ChangeSpec) : _root_.Go.OpenSpec := { _root_.Go.OpenSpec.ofChange s with cond := some uptoSmall }

/-- 'furlonglaw03.ReelSafe', WHERE WHAT IT READS IS OF BULK AT MOST 1048576: true; the input reads as it did. -/
def reelSafeUptoRow : OpenClaim := { program := "ytjmddbhbibmjdaa", sum := "40c43cc0627abe536eb28f9655b6234ff736ebda4e2e371515960e80977ecce3", func := "furlong/furlonglaw03.ReelSafe", spec := "reelSafe", apart := false, narrowed := true }
def ReelSafeUptoSaid : Prop := reelSafeUptoRow.holds Try.pinned (OpenSpec.upto reelSafeSpec)

/-- 'furlonglaw03.ReelArmed', WHERE WHAT IT READS IS OF BULK AT MOST 1048576: true; the input reads as it did. -/
def reelArmedUptoRow : OpenClaim := { program := "ytjmddbhbibmjdaa", sum := "40c43cc0627abe536eb28f9655b6234ff736ebda4e2e371515960e80977ecce3", func := "furlong/furlonglaw03.ReelArmed", spec := "reelArmed", apart := false, narrowed := true }
def ReelArmedUptoSaid : Prop := reelArmedUptoRow.holds Try.pinned (OpenSpec.upto reelArmedSpec)

/-- 'furlonglaw03.ReelPlays', WHERE WHAT IT READS IS OF BULK AT MOST 1048576: true; the input reads as it did. -/
def reelPlaysUptoRow : OpenClaim := { program := "ytjmddbhbibmjdaa", sum := "40c43cc0627abe536eb28f9655b6234ff736ebda4e2e371515960e80977ecce3", func := "furlong/furlonglaw03.ReelPlays", spec := "reelPlays", apart := false, narrowed := true }
def ReelPlaysUptoSaid : Prop := reelPlaysUptoRow.holds Try.pinned (OpenSpec.upto reelPlaysSpec)

/-- 'furlonglaw03.ReelTrims', WHERE WHAT IT READS IS OF BULK AT MOST 1048576: true; the input reads as it did. -/
def reelTrimsUptoRow : OpenClaim := { program := "ytjmddbhbibmjdaa", sum := "40c43cc0627abe536eb28f9655b6234ff736ebda4e2e371515960e80977ecce3", func := "furlong/furlonglaw03.ReelTrims", spec := "reelTrims", apart := false, narrowed := true }
def ReelTrimsUptoSaid : Prop := reelTrimsUptoRow.holds Try.pinned (OpenSpec.upto reelTrimsSpec)

/-- 'furlonglaw03.ReelNil', WHERE WHAT IT READS IS OF BULK AT MOST 1048576: true; the input reads as it did. -/
def reelNilUptoRow : OpenClaim := { program := "ytjmddbhbibmjdaa", sum := "40c43cc0627abe536eb28f9655b6234ff736ebda4e2e371515960e80977ecce3", func := "furlong/furlonglaw03.ReelNil", spec := "reelNil", apart := false, narrowed := true }
def ReelNilUptoSaid : Prop := reelNilUptoRow.holds Try.pinned (OpenSpec.upto reelNilSpec)

/-- 'furlonglaw03.ReelRoom', WHERE WHAT IT READS IS OF BULK AT MOST 1048576: true; the input reads as it did. -/
def reelRoomUptoRow : OpenClaim := { program := "ytjmddbhbibmjdaa", sum := "40c43cc0627abe536eb28f9655b6234ff736ebda4e2e371515960e80977ecce3", func := "furlong/furlonglaw03.ReelRoom", spec := "reelRoom", apart := false, narrowed := true }
def ReelRoomUptoSaid : Prop := reelRoomUptoRow.holds Try.pinned (OpenSpec.upto reelRoomSpec)

end Rows
end Go.Proofs.Ytjmddbhbibmjdaa
