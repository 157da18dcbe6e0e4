/-
  DERIVED. GIVEN WITH THE SEED: THE CARDS: each row of YtjmejamgbinigaaDoorRows.lean that lists a variable, with what it lists TIED to the program's text (the seventh form; the later family's looks); each row that meets fmt, with fmt's text TOLD by the authors' own Lean function (tested against real Go, not proved from fmt's source: count such statements apart). THE CARD IS WHAT COUNTS. Prove the row's statement (the work); the ties are given (YtjmejamgbinigaaDoorTie.lean); close each card by the builder's one call (the guide's Derived/Test/ToyasCard.lean, 'card_holds'). Laid BY PROGRAM, IN A SANDBOX (cutbox-door.mjs). By AI agents, Wed Nov 11 2026. No macro, syntax, notation, axiom, sorry.
-/
import Derived.Test.YtjmejamgbinigaaDoorRows
import GoSem.ClaimSeven
namespace Go.Proofs.YtjmejamgbinigaaDoor
namespace Rows

/-- THE TIED CARD OF 'furlonglaw04.LedgerLasts'. -/
def ledgerLastsCard : Claim7 := { stood := { row := ledgerLastsRow, standIns := [], harness := (true, "7007eb4a95c4a854f5a68177895f6253c72ecde6d8966dc45604beb021b7ae3e"), looks := true }, kinds := [], alts := [], laidByText := true, laidKinds := [.data, .data, .data, .sentinel, .sentinel], laidTests := true, laidLooks := .later }
def LedgerLastsCardSaid : Prop := Claim7.holds Tryd.pinned (.plain (OpenSpec.ofChange ledgerLastsSpec)) ledgerLastsCard

/-- THE TIED CARD OF 'furlonglaw04.LedgerTorn'. -/
def ledgerTornCard : Claim7 := { stood := { row := ledgerTornRow, standIns := [], harness := (true, "7007eb4a95c4a854f5a68177895f6253c72ecde6d8966dc45604beb021b7ae3e"), looks := true }, kinds := [], alts := [], laidByText := true, laidKinds := [.data, .data, .data, .sentinel, .sentinel], laidTests := true, laidLooks := .later }
def LedgerTornCardSaid : Prop := Claim7.holds Tryd.pinned (.plain (OpenSpec.ofChange ledgerTornSpec)) ledgerTornCard

/-- THE TIED CARD OF 'furlonglaw04.LedgerAll'. -/
def ledgerAllCard : Claim7 := { stood := { row := ledgerAllRow, standIns := [], harness := (true, "7007eb4a95c4a854f5a68177895f6253c72ecde6d8966dc45604beb021b7ae3e"), looks := true }, kinds := [], alts := [], laidByText := true, laidKinds := [.data, .data, .data, .sentinel, .sentinel], laidTests := true, laidLooks := .later }
def LedgerAllCardSaid : Prop := Claim7.holds Tryd.pinned (.plain (OpenSpec.ofChange ledgerAllSpec)) ledgerAllCard

/-- THE TIED CARD OF 'furlonglaw04.LedgerBases'. -/
def ledgerBasesCard : Claim7 := { stood := { row := ledgerBasesRow, standIns := [], harness := (true, "7007eb4a95c4a854f5a68177895f6253c72ecde6d8966dc45604beb021b7ae3e"), looks := true }, kinds := [], alts := [], laidByText := true, laidKinds := [.data, .data, .data, .sentinel, .sentinel], laidTests := true, laidLooks := .later }
def LedgerBasesCardSaid : Prop := Claim7.holds Tryd.pinned (.plain (OpenSpec.ofChange ledgerBasesSpec)) ledgerBasesCard

/-- THE TIED CARD OF 'furlonglaw04.LedgerNil'. -/
def ledgerNilCard : Claim7 := { stood := { row := ledgerNilRow, standIns := [], harness := (true, "7007eb4a95c4a854f5a68177895f6253c72ecde6d8966dc45604beb021b7ae3e"), looks := true }, kinds := [], alts := [], laidByText := true, laidKinds := [.data, .data, .data, .sentinel, .sentinel], laidTests := true, laidLooks := .later }
def LedgerNilCardSaid : Prop := Claim7.holds Tryd.pinned (.plain (OpenSpec.ofChange ledgerNilSpec)) ledgerNilCard

/-- THE SECOND FORM's CARD OF 'furlonglaw04.LedgerLasts'. -/
def ledgerLastsUptoCard : Claim7 := { stood := { row := ledgerLastsUptoRow, standIns := [], harness := (true, "7007eb4a95c4a854f5a68177895f6253c72ecde6d8966dc45604beb021b7ae3e"), looks := true }, kinds := [], alts := [], laidByText := true, laidKinds := [.data, .data, .data, .sentinel, .sentinel], laidTests := true, laidLooks := .later }
def LedgerLastsUptoCardSaid : Prop := Claim7.holds Tryd.pinned (.plain (OpenSpec.upto ledgerLastsSpec)) ledgerLastsUptoCard

/-- THE SECOND FORM's CARD OF 'furlonglaw04.LedgerTorn'. -/
def ledgerTornUptoCard : Claim7 := { stood := { row := ledgerTornUptoRow, standIns := [], harness := (true, "7007eb4a95c4a854f5a68177895f6253c72ecde6d8966dc45604beb021b7ae3e"), looks := true }, kinds := [], alts := [], laidByText := true, laidKinds := [.data, .data, .data, .sentinel, .sentinel], laidTests := true, laidLooks := .later }
def LedgerTornUptoCardSaid : Prop := Claim7.holds Tryd.pinned (.plain (OpenSpec.upto ledgerTornSpec)) ledgerTornUptoCard

/-- THE SECOND FORM's CARD OF 'furlonglaw04.LedgerAll'. -/
def ledgerAllUptoCard : Claim7 := { stood := { row := ledgerAllUptoRow, standIns := [], harness := (true, "7007eb4a95c4a854f5a68177895f6253c72ecde6d8966dc45604beb021b7ae3e"), looks := true }, kinds := [], alts := [], laidByText := true, laidKinds := [.data, .data, .data, .sentinel, .sentinel], laidTests := true, laidLooks := .later }
def LedgerAllUptoCardSaid : Prop := Claim7.holds Tryd.pinned (.plain (OpenSpec.upto ledgerAllSpec)) ledgerAllUptoCard

/-- THE SECOND FORM's CARD OF 'furlonglaw04.LedgerBases'. -/
def ledgerBasesUptoCard : Claim7 := { stood := { row := ledgerBasesUptoRow, standIns := [], harness := (true, "7007eb4a95c4a854f5a68177895f6253c72ecde6d8966dc45604beb021b7ae3e"), looks := true }, kinds := [], alts := [], laidByText := true, laidKinds := [.data, .data, .data, .sentinel, .sentinel], laidTests := true, laidLooks := .later }
def LedgerBasesUptoCardSaid : Prop := Claim7.holds Tryd.pinned (.plain (OpenSpec.upto ledgerBasesSpec)) ledgerBasesUptoCard

/-- THE SECOND FORM's CARD OF 'furlonglaw04.LedgerNil'. -/
def ledgerNilUptoCard : Claim7 := { stood := { row := ledgerNilUptoRow, standIns := [], harness := (true, "7007eb4a95c4a854f5a68177895f6253c72ecde6d8966dc45604beb021b7ae3e"), looks := true }, kinds := [], alts := [], laidByText := true, laidKinds := [.data, .data, .data, .sentinel, .sentinel], laidTests := true, laidLooks := .later }
def LedgerNilUptoCardSaid : Prop := Claim7.holds Tryd.pinned (.plain (OpenSpec.upto ledgerNilSpec)) ledgerNilUptoCard
end Rows
end Go.Proofs.YtjmejamgbinigaaDoor
