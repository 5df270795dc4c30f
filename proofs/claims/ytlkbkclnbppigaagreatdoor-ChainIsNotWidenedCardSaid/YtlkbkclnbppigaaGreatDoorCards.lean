/-
  DERIVED. GIVEN WITH THE SEED: THE CARDS: each row of YtlkbkclnbppigaaGreatDoorRows.lean that lists a variable, with what it lists TIED to the program's text (the seventh form; the later family's looks); each row that meets fmt, with fmt's text TOLD by the authors' own Lean function (tested against real Go, not proved from fmt's source: count such statements apart). THE CARD IS WHAT COUNTS. Prove the row's statement (the work); the ties are given (YtlkbkclnbppigaaGreatDoorTie.lean); close each card by the builder's one call (the guide's Derived/Test/ToyasCard.lean, 'card_holds'). Laid BY PROGRAM, IN A SANDBOX (cutbox-door.mjs). By AI agents, Wed Nov 11 2026. No macro, syntax, notation, axiom, sorry.
-/
import Derived.Test.YtlkbkclnbppigaaGreatDoorRows
import GoSem.ClaimSeven
namespace Go.Proofs.YtlkbkclnbppigaaGreatDoor
namespace Rows

/-- THE TIED CARD OF 'weirgatelaw25.ChainMakesAsSpecified'. -/
def chainMakesAsSpecifiedCard : Claim7 := { stood := { row := chainMakesAsSpecifiedRow, standIns := [], harness := (true, "ed07195e638e944ead6db861518e1693bec2130251f659a5d83814a52ff3ece1"), looks := true }, kinds := [], alts := [], laidByText := true, laidKinds := [.data, .data, .data, .data, .data, .sentinel, .sentinel, .data, .pinned], laidTests := true, laidLooks := .later }
def ChainMakesAsSpecifiedCardSaid : Prop := Claim7.holds Tryz.pinned (.plain (OpenSpec.ofChange chainMakesAsSpecifiedSpec)) chainMakesAsSpecifiedCard

/-- THE TIED CARD OF 'weirgatelaw25.ChainChecksAsSpecified'. -/
def chainChecksAsSpecifiedCard : Claim7 := { stood := { row := chainChecksAsSpecifiedRow, standIns := [], harness := (true, "ed07195e638e944ead6db861518e1693bec2130251f659a5d83814a52ff3ece1"), looks := true }, kinds := [], alts := [], laidByText := true, laidKinds := [.data, .data, .data, .data, .data, .sentinel, .sentinel, .data, .pinned], laidTests := true, laidLooks := .later }
def ChainChecksAsSpecifiedCardSaid : Prop := Claim7.holds Tryz.pinned (.plain (OpenSpec.ofChange chainChecksAsSpecifiedSpec)) chainChecksAsSpecifiedCard

/-- THE TIED CARD OF 'weirgatelaw25.ChainIsNotWidened'. -/
def chainIsNotWidenedCard : Claim7 := { stood := { row := chainIsNotWidenedRow, standIns := [], harness := (true, "ed07195e638e944ead6db861518e1693bec2130251f659a5d83814a52ff3ece1"), looks := true }, kinds := [], alts := [], laidByText := true, laidKinds := [.data, .data, .data, .data, .data, .sentinel, .sentinel, .data, .pinned], laidTests := true, laidLooks := .later }
def ChainIsNotWidenedCardSaid : Prop := Claim7.holds Tryz.pinned (.plain (OpenSpec.ofChange chainIsNotWidenedSpec)) chainIsNotWidenedCard

/-- THE TIED CARD OF 'weirgatelaw25.ChainReadsAsSpecified'. -/
def chainReadsAsSpecifiedCard : Claim7 := { stood := { row := chainReadsAsSpecifiedRow, standIns := [], harness := (true, "ed07195e638e944ead6db861518e1693bec2130251f659a5d83814a52ff3ece1"), looks := true }, kinds := [], alts := [], laidByText := true, laidKinds := [.data, .data, .data, .data, .sentinel, .sentinel, .data, .pinned], laidTests := true, laidLooks := .later }
def ChainReadsAsSpecifiedCardSaid : Prop := Claim7.holds Tryz.pinned (.plain (OpenSpec.ofChange chainReadsAsSpecifiedSpec)) chainReadsAsSpecifiedCard

/-- THE TIED CARD OF 'weirgatelaw25.ChainReadsBack'. -/
def chainReadsBackCard : Claim7 := { stood := { row := chainReadsBackRow, standIns := [], harness := (true, "ed07195e638e944ead6db861518e1693bec2130251f659a5d83814a52ff3ece1"), looks := true }, kinds := [], alts := [], laidByText := true, laidKinds := [.data, .data, .data, .data, .sentinel, .sentinel, .data, .pinned], laidTests := true, laidLooks := .later }
def ChainReadsBackCardSaid : Prop := Claim7.holds Tryz.pinned (.plain (OpenSpec.ofChange chainReadsBackSpec)) chainReadsBackCard

/-- THE TIED CARD OF 'weirgatelaw25.ChainOnlyNarrows'. -/
def chainOnlyNarrowsCard : Claim7 := { stood := { row := chainOnlyNarrowsRow, standIns := [], harness := (true, "ed07195e638e944ead6db861518e1693bec2130251f659a5d83814a52ff3ece1"), looks := true }, kinds := [], alts := [], laidByText := true, laidKinds := [.data, .data, .data, .data, .sentinel, .sentinel, .data, .pinned], laidTests := true, laidLooks := .later }
def ChainOnlyNarrowsCardSaid : Prop := Claim7.holds Tryz.pinned (.plain (OpenSpec.ofChange chainOnlyNarrowsSpec)) chainOnlyNarrowsCard

/-- THE SECOND FORM's CARD OF 'weirgatelaw25.ChainMakesAsSpecified'. -/
def chainMakesAsSpecifiedUptoCard : Claim7 := { stood := { row := chainMakesAsSpecifiedUptoRow, standIns := [], harness := (true, "ed07195e638e944ead6db861518e1693bec2130251f659a5d83814a52ff3ece1"), looks := true }, kinds := [], alts := [], laidByText := true, laidKinds := [.data, .data, .data, .data, .data, .sentinel, .sentinel, .data, .pinned], laidTests := true, laidLooks := .later }
def ChainMakesAsSpecifiedUptoCardSaid : Prop := Claim7.holds Tryz.pinned (.plain (OpenSpec.upto chainMakesAsSpecifiedSpec)) chainMakesAsSpecifiedUptoCard

/-- THE SECOND FORM's CARD OF 'weirgatelaw25.ChainChecksAsSpecified'. -/
def chainChecksAsSpecifiedUptoCard : Claim7 := { stood := { row := chainChecksAsSpecifiedUptoRow, standIns := [], harness := (true, "ed07195e638e944ead6db861518e1693bec2130251f659a5d83814a52ff3ece1"), looks := true }, kinds := [], alts := [], laidByText := true, laidKinds := [.data, .data, .data, .data, .data, .sentinel, .sentinel, .data, .pinned], laidTests := true, laidLooks := .later }
def ChainChecksAsSpecifiedUptoCardSaid : Prop := Claim7.holds Tryz.pinned (.plain (OpenSpec.upto chainChecksAsSpecifiedSpec)) chainChecksAsSpecifiedUptoCard

/-- THE SECOND FORM's CARD OF 'weirgatelaw25.ChainIsNotWidened'. -/
def chainIsNotWidenedUptoCard : Claim7 := { stood := { row := chainIsNotWidenedUptoRow, standIns := [], harness := (true, "ed07195e638e944ead6db861518e1693bec2130251f659a5d83814a52ff3ece1"), looks := true }, kinds := [], alts := [], laidByText := true, laidKinds := [.data, .data, .data, .data, .data, .sentinel, .sentinel, .data, .pinned], laidTests := true, laidLooks := .later }
def ChainIsNotWidenedUptoCardSaid : Prop := Claim7.holds Tryz.pinned (.plain (OpenSpec.upto chainIsNotWidenedSpec)) chainIsNotWidenedUptoCard

/-- THE SECOND FORM's CARD OF 'weirgatelaw25.ChainReadsAsSpecified'. -/
def chainReadsAsSpecifiedUptoCard : Claim7 := { stood := { row := chainReadsAsSpecifiedUptoRow, standIns := [], harness := (true, "ed07195e638e944ead6db861518e1693bec2130251f659a5d83814a52ff3ece1"), looks := true }, kinds := [], alts := [], laidByText := true, laidKinds := [.data, .data, .data, .data, .sentinel, .sentinel, .data, .pinned], laidTests := true, laidLooks := .later }
def ChainReadsAsSpecifiedUptoCardSaid : Prop := Claim7.holds Tryz.pinned (.plain (OpenSpec.upto chainReadsAsSpecifiedSpec)) chainReadsAsSpecifiedUptoCard

/-- THE SECOND FORM's CARD OF 'weirgatelaw25.ChainReadsBack'. -/
def chainReadsBackUptoCard : Claim7 := { stood := { row := chainReadsBackUptoRow, standIns := [], harness := (true, "ed07195e638e944ead6db861518e1693bec2130251f659a5d83814a52ff3ece1"), looks := true }, kinds := [], alts := [], laidByText := true, laidKinds := [.data, .data, .data, .data, .sentinel, .sentinel, .data, .pinned], laidTests := true, laidLooks := .later }
def ChainReadsBackUptoCardSaid : Prop := Claim7.holds Tryz.pinned (.plain (OpenSpec.upto chainReadsBackSpec)) chainReadsBackUptoCard

/-- THE SECOND FORM's CARD OF 'weirgatelaw25.ChainOnlyNarrows'. -/
def chainOnlyNarrowsUptoCard : Claim7 := { stood := { row := chainOnlyNarrowsUptoRow, standIns := [], harness := (true, "ed07195e638e944ead6db861518e1693bec2130251f659a5d83814a52ff3ece1"), looks := true }, kinds := [], alts := [], laidByText := true, laidKinds := [.data, .data, .data, .data, .sentinel, .sentinel, .data, .pinned], laidTests := true, laidLooks := .later }
def ChainOnlyNarrowsUptoCardSaid : Prop := Claim7.holds Tryz.pinned (.plain (OpenSpec.upto chainOnlyNarrowsSpec)) chainOnlyNarrowsUptoCard
end Rows
end Go.Proofs.YtlkbkclnbppigaaGreatDoor
