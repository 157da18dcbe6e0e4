/-
  DERIVED. GIVEN WITH THE SEED: THE CARDS: each row of YtopajmbblemopaaGreatDoorRows.lean that lists a variable, with what it lists TIED to the program's text (the seventh form; the later family's looks); each row that meets fmt, with fmt's text TOLD by the authors' own Lean function (tested against real Go, not proved from fmt's source: count such statements apart). THE CARD IS WHAT COUNTS. Prove the row's statement (the work); the ties are given (YtopajmbblemopaaGreatDoorTie.lean); close each card by the builder's one call (the guide's Derived/Test/ToyasCard.lean, 'card_holds'). Laid BY PROGRAM, IN A SANDBOX (cutbox-door.mjs). By AI agents, Wed Nov 11 2026. No macro, syntax, notation, axiom, sorry.
-/
import Derived.Test.YtopajmbblemopaaGreatDoorRows
import GoSem.ClaimSeven
namespace Go.Proofs.YtopajmbblemopaaGreatDoor
namespace Rows

/-- THE TIED CARD OF 'furlonglaw05.ShelfScans'. -/
def shelfScansCard : Claim7 := { stood := { row := shelfScansRow, standIns := [], harness := (true, "a0b9e85f6eb319448b6612f75df1e6a0e6edf519510076b1b842b5a81a85906e"), looks := true }, kinds := [], alts := [], laidByText := true, laidKinds := [.data, .data, .data, .sentinel, .sentinel], laidTests := true, laidLooks := .later }
def ShelfScansCardSaid : Prop := Claim7.holds Tryz.pinned (.plain (OpenSpec.ofChange shelfScansSpec)) shelfScansCard

/-- THE TIED CARD OF 'furlonglaw05.ShelfLast'. -/
def shelfLastCard : Claim7 := { stood := { row := shelfLastRow, standIns := [], harness := (true, "a0b9e85f6eb319448b6612f75df1e6a0e6edf519510076b1b842b5a81a85906e"), looks := true }, kinds := [], alts := [], laidByText := true, laidKinds := [.data, .data, .data, .sentinel, .sentinel], laidTests := true, laidLooks := .later }
def ShelfLastCardSaid : Prop := Claim7.holds Tryz.pinned (.plain (OpenSpec.ofChange shelfLastSpec)) shelfLastCard

/-- THE TIED CARD OF 'furlonglaw05.ShelfPacks'. -/
def shelfPacksCard : Claim7 := { stood := { row := shelfPacksRow, standIns := [], harness := (true, "a0b9e85f6eb319448b6612f75df1e6a0e6edf519510076b1b842b5a81a85906e"), looks := true }, kinds := [], alts := [], laidByText := true, laidKinds := [.data, .data, .data, .sentinel, .sentinel], laidTests := true, laidLooks := .later }
def ShelfPacksCardSaid : Prop := Claim7.holds Tryz.pinned (.plain (OpenSpec.ofChange shelfPacksSpec)) shelfPacksCard

/-- THE TIED CARD OF 'furlonglaw05.ShelfWhole'. -/
def shelfWholeCard : Claim7 := { stood := { row := shelfWholeRow, standIns := [], harness := (true, "a0b9e85f6eb319448b6612f75df1e6a0e6edf519510076b1b842b5a81a85906e"), looks := true }, kinds := [], alts := [], laidByText := true, laidKinds := [.data, .data, .data, .sentinel, .sentinel], laidTests := true, laidLooks := .later }
def ShelfWholeCardSaid : Prop := Claim7.holds Tryz.pinned (.plain (OpenSpec.ofChange shelfWholeSpec)) shelfWholeCard

/-- THE TIED CARD OF 'furlonglaw05.ShelfNil'. -/
def shelfNilCard : Claim7 := { stood := { row := shelfNilRow, standIns := [], harness := (true, "a0b9e85f6eb319448b6612f75df1e6a0e6edf519510076b1b842b5a81a85906e"), looks := true }, kinds := [], alts := [], laidByText := true, laidKinds := [.data, .data, .data, .sentinel, .sentinel], laidTests := true, laidLooks := .later }
def ShelfNilCardSaid : Prop := Claim7.holds Tryz.pinned (.plain (OpenSpec.ofChange shelfNilSpec)) shelfNilCard

/-- THE TIED CARD OF 'furlonglaw05.ShelfPlays'. -/
def shelfPlaysCard : Claim7 := { stood := { row := shelfPlaysRow, standIns := [], harness := (true, "a0b9e85f6eb319448b6612f75df1e6a0e6edf519510076b1b842b5a81a85906e"), looks := true }, kinds := [], alts := [], laidByText := true, laidKinds := [.data, .data, .data, .sentinel, .sentinel], laidTests := true, laidLooks := .later }
def ShelfPlaysCardSaid : Prop := Claim7.holds Tryz.pinned (.plain (OpenSpec.ofChange shelfPlaysSpec)) shelfPlaysCard

/-- THE SECOND FORM's CARD OF 'furlonglaw05.ShelfScans'. -/
def shelfScansUptoCard : Claim7 := { stood := { row := shelfScansUptoRow, standIns := [], harness := (true, "a0b9e85f6eb319448b6612f75df1e6a0e6edf519510076b1b842b5a81a85906e"), looks := true }, kinds := [], alts := [], laidByText := true, laidKinds := [.data, .data, .data, .sentinel, .sentinel], laidTests := true, laidLooks := .later }
def ShelfScansUptoCardSaid : Prop := Claim7.holds Tryz.pinned (.plain (OpenSpec.upto shelfScansSpec)) shelfScansUptoCard

/-- THE SECOND FORM's CARD OF 'furlonglaw05.ShelfLast'. -/
def shelfLastUptoCard : Claim7 := { stood := { row := shelfLastUptoRow, standIns := [], harness := (true, "a0b9e85f6eb319448b6612f75df1e6a0e6edf519510076b1b842b5a81a85906e"), looks := true }, kinds := [], alts := [], laidByText := true, laidKinds := [.data, .data, .data, .sentinel, .sentinel], laidTests := true, laidLooks := .later }
def ShelfLastUptoCardSaid : Prop := Claim7.holds Tryz.pinned (.plain (OpenSpec.upto shelfLastSpec)) shelfLastUptoCard

/-- THE SECOND FORM's CARD OF 'furlonglaw05.ShelfPacks'. -/
def shelfPacksUptoCard : Claim7 := { stood := { row := shelfPacksUptoRow, standIns := [], harness := (true, "a0b9e85f6eb319448b6612f75df1e6a0e6edf519510076b1b842b5a81a85906e"), looks := true }, kinds := [], alts := [], laidByText := true, laidKinds := [.data, .data, .data, .sentinel, .sentinel], laidTests := true, laidLooks := .later }
def ShelfPacksUptoCardSaid : Prop := Claim7.holds Tryz.pinned (.plain (OpenSpec.upto shelfPacksSpec)) shelfPacksUptoCard

/-- THE SECOND FORM's CARD OF 'furlonglaw05.ShelfWhole'. -/
def shelfWholeUptoCard : Claim7 := { stood := { row := shelfWholeUptoRow, standIns := [], harness := (true, "a0b9e85f6eb319448b6612f75df1e6a0e6edf519510076b1b842b5a81a85906e"), looks := true }, kinds := [], alts := [], laidByText := true, laidKinds := [.data, .data, .data, .sentinel, .sentinel], laidTests := true, laidLooks := .later }
def ShelfWholeUptoCardSaid : Prop := Claim7.holds Tryz.pinned (.plain (OpenSpec.upto shelfWholeSpec)) shelfWholeUptoCard

/-- THE SECOND FORM's CARD OF 'furlonglaw05.ShelfNil'. -/
def shelfNilUptoCard : Claim7 := { stood := { row := shelfNilUptoRow, standIns := [], harness := (true, "a0b9e85f6eb319448b6612f75df1e6a0e6edf519510076b1b842b5a81a85906e"), looks := true }, kinds := [], alts := [], laidByText := true, laidKinds := [.data, .data, .data, .sentinel, .sentinel], laidTests := true, laidLooks := .later }
def ShelfNilUptoCardSaid : Prop := Claim7.holds Tryz.pinned (.plain (OpenSpec.upto shelfNilSpec)) shelfNilUptoCard

/-- THE SECOND FORM's CARD OF 'furlonglaw05.ShelfPlays'. -/
def shelfPlaysUptoCard : Claim7 := { stood := { row := shelfPlaysUptoRow, standIns := [], harness := (true, "a0b9e85f6eb319448b6612f75df1e6a0e6edf519510076b1b842b5a81a85906e"), looks := true }, kinds := [], alts := [], laidByText := true, laidKinds := [.data, .data, .data, .sentinel, .sentinel], laidTests := true, laidLooks := .later }
def ShelfPlaysUptoCardSaid : Prop := Claim7.holds Tryz.pinned (.plain (OpenSpec.upto shelfPlaysSpec)) shelfPlaysUptoCard
end Rows
end Go.Proofs.YtopajmbblemopaaGreatDoor
