/-
  DERIVED. GIVEN WITH THE SEED: THE CARDS: each row of YtcjeddichookmaaGreatDoorRows.lean that lists a variable, with what it lists TIED to the program's text (the seventh form; the later family's looks); each row that meets fmt, with fmt's text TOLD by the authors' own Lean function (tested against real Go, not proved from fmt's source: count such statements apart). THE CARD IS WHAT COUNTS. Prove the row's statement (the work); the ties are given (YtcjeddichookmaaGreatDoorTie.lean); close each card by the builder's one call (the guide's Derived/Test/ToyasCard.lean, 'card_holds'). Laid BY PROGRAM, IN A SANDBOX (cutbox-door.mjs). By AI agents, Wed Nov 11 2026. No macro, syntax, notation, axiom, sorry.
-/
import Derived.Test.YtcjeddichookmaaGreatDoorRows
import GoSem.ClaimSeven
namespace Go.Proofs.YtcjeddichookmaaGreatDoor
namespace Rows

/-- THE TIED CARD OF 'weirgatelaw15.IndexNeverChanges'. -/
def indexNeverChangesCard : Claim7 := { stood := { row := indexNeverChangesRow, standIns := [], harness := (true, "d7144844a6a0eacc3e9b0fe5ee219582f83797f6a7ec65732346f90e7f6046af"), looks := false }, kinds := [], alts := [], laidByText := true, laidKinds := [.data, .data, .pinned], laidTests := true, laidLooks := .later }
def IndexNeverChangesCardSaid : Prop := Claim7.holds Tryz.pinned (.plain (OpenSpec.ofChange indexNeverChangesSpec)) indexNeverChangesCard

/-- THE SECOND FORM's CARD OF 'weirgatelaw15.IndexNeverChanges'. -/
def indexNeverChangesUptoCard : Claim7 := { stood := { row := indexNeverChangesUptoRow, standIns := [], harness := (true, "d7144844a6a0eacc3e9b0fe5ee219582f83797f6a7ec65732346f90e7f6046af"), looks := false }, kinds := [], alts := [], laidByText := true, laidKinds := [.data, .data, .pinned], laidTests := true, laidLooks := .later }
def IndexNeverChangesUptoCardSaid : Prop := Claim7.holds Tryz.pinned (.plain (OpenSpec.upto indexNeverChangesSpec)) indexNeverChangesUptoCard
end Rows
end Go.Proofs.YtcjeddichookmaaGreatDoor
