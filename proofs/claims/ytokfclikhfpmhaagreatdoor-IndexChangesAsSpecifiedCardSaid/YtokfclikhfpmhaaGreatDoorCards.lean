/-
  DERIVED. GIVEN WITH THE SEED: THE CARDS: each row of YtokfclikhfpmhaaGreatDoorRows.lean that lists a variable, with what it lists TIED to the program's text (the seventh form; the later family's looks); each row that meets fmt, with fmt's text TOLD by the authors' own Lean function (tested against real Go, not proved from fmt's source: count such statements apart). THE CARD IS WHAT COUNTS. Prove the row's statement (the work); the ties are given (YtokfclikhfpmhaaGreatDoorTie.lean); close each card by the builder's one call (the guide's Derived/Test/ToyasCard.lean, 'card_holds'). Laid BY PROGRAM, IN A SANDBOX (cutbox-door.mjs). By AI agents, Wed Nov 11 2026. No macro, syntax, notation, axiom, sorry.
-/
import Derived.Test.YtokfclikhfpmhaaGreatDoorRows
import GoSem.ClaimSeven
namespace Go.Proofs.YtokfclikhfpmhaaGreatDoor
namespace Rows

/-- THE TIED CARD OF 'weirgatelaw15.IndexFindsAsSpecified'. -/
def indexFindsAsSpecifiedCard : Claim7 := { stood := { row := indexFindsAsSpecifiedRow, standIns := [], harness := (true, "9785b61a764932bdeb483e6f367bd358176e76c42f12a7aaeb422320a23a97d9"), looks := false }, kinds := [], alts := [], laidByText := true, laidKinds := [.data, .data, .pinned], laidTests := true, laidLooks := .later }
def IndexFindsAsSpecifiedCardSaid : Prop := Claim7.holds Tryz.pinned (.plain (OpenSpec.ofChange indexFindsAsSpecifiedSpec)) indexFindsAsSpecifiedCard

/-- THE TIED CARD OF 'weirgatelaw15.IndexFindsAll'. -/
def indexFindsAllCard : Claim7 := { stood := { row := indexFindsAllRow, standIns := [], harness := (true, "9785b61a764932bdeb483e6f367bd358176e76c42f12a7aaeb422320a23a97d9"), looks := false }, kinds := [], alts := [], laidByText := true, laidKinds := [.data, .data, .pinned], laidTests := true, laidLooks := .later }
def IndexFindsAllCardSaid : Prop := Claim7.holds Tryz.pinned (.plain (OpenSpec.ofChange indexFindsAllSpec)) indexFindsAllCard

/-- THE TIED CARD OF 'weirgatelaw15.IndexNeverChanges'. -/
def indexNeverChangesCard : Claim7 := { stood := { row := indexNeverChangesRow, standIns := [], harness := (true, "9785b61a764932bdeb483e6f367bd358176e76c42f12a7aaeb422320a23a97d9"), looks := false }, kinds := [], alts := [], laidByText := true, laidKinds := [.data, .data, .pinned], laidTests := true, laidLooks := .later }
def IndexNeverChangesCardSaid : Prop := Claim7.holds Tryz.pinned (.plain (OpenSpec.ofChange indexNeverChangesSpec)) indexNeverChangesCard

/-- THE TIED CARD OF 'weirgatelaw15.IndexOrderDoesNotMatter'. -/
def indexOrderDoesNotMatterCard : Claim7 := { stood := { row := indexOrderDoesNotMatterRow, standIns := [], harness := (true, "9785b61a764932bdeb483e6f367bd358176e76c42f12a7aaeb422320a23a97d9"), looks := false }, kinds := [], alts := [], laidByText := true, laidKinds := [.data, .data, .pinned], laidTests := true, laidLooks := .later }
def IndexOrderDoesNotMatterCardSaid : Prop := Claim7.holds Tryz.pinned (.plain (OpenSpec.ofChange indexOrderDoesNotMatterSpec)) indexOrderDoesNotMatterCard

/-- THE TIED CARD OF 'weirgatelaw15.IndexKeepsAsSpecified'. -/
def indexKeepsAsSpecifiedCard : Claim7 := { stood := { row := indexKeepsAsSpecifiedRow, standIns := [], harness := (true, "9785b61a764932bdeb483e6f367bd358176e76c42f12a7aaeb422320a23a97d9"), looks := false }, kinds := [], alts := [], laidByText := true, laidKinds := [.data, .data, .pinned], laidTests := true, laidLooks := .later }
def IndexKeepsAsSpecifiedCardSaid : Prop := Claim7.holds Tryz.pinned (.plain (OpenSpec.ofChange indexKeepsAsSpecifiedSpec)) indexKeepsAsSpecifiedCard

/-- THE TIED CARD OF 'weirgatelaw15.IndexChangesAsSpecified'. -/
def indexChangesAsSpecifiedCard : Claim7 := { stood := { row := indexChangesAsSpecifiedRow, standIns := [], harness := (true, "9785b61a764932bdeb483e6f367bd358176e76c42f12a7aaeb422320a23a97d9"), looks := false }, kinds := [], alts := [], laidByText := true, laidKinds := [.data, .data, .pinned], laidTests := true, laidLooks := .later }
def IndexChangesAsSpecifiedCardSaid : Prop := Claim7.holds Tryz.pinned (.plain (OpenSpec.ofChange indexChangesAsSpecifiedSpec)) indexChangesAsSpecifiedCard

/-- THE SECOND FORM's CARD OF 'weirgatelaw15.IndexFindsAsSpecified'. -/
def indexFindsAsSpecifiedUptoCard : Claim7 := { stood := { row := indexFindsAsSpecifiedUptoRow, standIns := [], harness := (true, "9785b61a764932bdeb483e6f367bd358176e76c42f12a7aaeb422320a23a97d9"), looks := false }, kinds := [], alts := [], laidByText := true, laidKinds := [.data, .data, .pinned], laidTests := true, laidLooks := .later }
def IndexFindsAsSpecifiedUptoCardSaid : Prop := Claim7.holds Tryz.pinned (.plain (OpenSpec.upto indexFindsAsSpecifiedSpec)) indexFindsAsSpecifiedUptoCard

/-- THE SECOND FORM's CARD OF 'weirgatelaw15.IndexFindsAll'. -/
def indexFindsAllUptoCard : Claim7 := { stood := { row := indexFindsAllUptoRow, standIns := [], harness := (true, "9785b61a764932bdeb483e6f367bd358176e76c42f12a7aaeb422320a23a97d9"), looks := false }, kinds := [], alts := [], laidByText := true, laidKinds := [.data, .data, .pinned], laidTests := true, laidLooks := .later }
def IndexFindsAllUptoCardSaid : Prop := Claim7.holds Tryz.pinned (.plain (OpenSpec.upto indexFindsAllSpec)) indexFindsAllUptoCard

/-- THE SECOND FORM's CARD OF 'weirgatelaw15.IndexNeverChanges'. -/
def indexNeverChangesUptoCard : Claim7 := { stood := { row := indexNeverChangesUptoRow, standIns := [], harness := (true, "9785b61a764932bdeb483e6f367bd358176e76c42f12a7aaeb422320a23a97d9"), looks := false }, kinds := [], alts := [], laidByText := true, laidKinds := [.data, .data, .pinned], laidTests := true, laidLooks := .later }
def IndexNeverChangesUptoCardSaid : Prop := Claim7.holds Tryz.pinned (.plain (OpenSpec.upto indexNeverChangesSpec)) indexNeverChangesUptoCard

/-- THE SECOND FORM's CARD OF 'weirgatelaw15.IndexOrderDoesNotMatter'. -/
def indexOrderDoesNotMatterUptoCard : Claim7 := { stood := { row := indexOrderDoesNotMatterUptoRow, standIns := [], harness := (true, "9785b61a764932bdeb483e6f367bd358176e76c42f12a7aaeb422320a23a97d9"), looks := false }, kinds := [], alts := [], laidByText := true, laidKinds := [.data, .data, .pinned], laidTests := true, laidLooks := .later }
def IndexOrderDoesNotMatterUptoCardSaid : Prop := Claim7.holds Tryz.pinned (.plain (OpenSpec.upto indexOrderDoesNotMatterSpec)) indexOrderDoesNotMatterUptoCard

/-- THE SECOND FORM's CARD OF 'weirgatelaw15.IndexKeepsAsSpecified'. -/
def indexKeepsAsSpecifiedUptoCard : Claim7 := { stood := { row := indexKeepsAsSpecifiedUptoRow, standIns := [], harness := (true, "9785b61a764932bdeb483e6f367bd358176e76c42f12a7aaeb422320a23a97d9"), looks := false }, kinds := [], alts := [], laidByText := true, laidKinds := [.data, .data, .pinned], laidTests := true, laidLooks := .later }
def IndexKeepsAsSpecifiedUptoCardSaid : Prop := Claim7.holds Tryz.pinned (.plain (OpenSpec.upto indexKeepsAsSpecifiedSpec)) indexKeepsAsSpecifiedUptoCard

/-- THE SECOND FORM's CARD OF 'weirgatelaw15.IndexChangesAsSpecified'. -/
def indexChangesAsSpecifiedUptoCard : Claim7 := { stood := { row := indexChangesAsSpecifiedUptoRow, standIns := [], harness := (true, "9785b61a764932bdeb483e6f367bd358176e76c42f12a7aaeb422320a23a97d9"), looks := false }, kinds := [], alts := [], laidByText := true, laidKinds := [.data, .data, .pinned], laidTests := true, laidLooks := .later }
def IndexChangesAsSpecifiedUptoCardSaid : Prop := Claim7.holds Tryz.pinned (.plain (OpenSpec.upto indexChangesAsSpecifiedSpec)) indexChangesAsSpecifiedUptoCard
end Rows
end Go.Proofs.YtokfclikhfpmhaaGreatDoor
