/-
  DERIVED. GIVEN WITH THE SEED: THE CARDS: each row of YticlbkficolocaaGreatDoorRows.lean that lists a variable, with what it lists TIED to the program's text (the seventh form; the later family's looks); each row that meets fmt, with fmt's text TOLD by the authors' own Lean function (tested against real Go, not proved from fmt's source: count such statements apart). THE CARD IS WHAT COUNTS. Prove the row's statement (the work); the ties are given (YticlbkficolocaaGreatDoorTie.lean); close each card by the builder's one call (the guide's Derived/Test/ToyasCard.lean, 'card_holds'). Laid BY PROGRAM, IN A SANDBOX (cutbox-door.mjs). By AI agents, Wed Nov 11 2026. No macro, syntax, notation, axiom, sorry.
-/
import Derived.Test.YticlbkficolocaaGreatDoorRows
import GoSem.ClaimSeven
namespace Go.Proofs.YticlbkficolocaaGreatDoor
namespace Rows

/-- THE TIED CARD OF 'weirgatelaw24.AnalyseFindsAsSpecified'. -/
def analyseFindsAsSpecifiedCard : Claim7 := { stood := { row := analyseFindsAsSpecifiedRow, standIns := [], harness := (true, "13bb06f10e09579f93f12e18a6942cf7211c00e0fd6f881561d20d21780b6d2e"), looks := false }, kinds := [], alts := [], laidByText := true, laidKinds := [.data, .data, .data, .data, .pinned], laidTests := true, laidLooks := .later }
def AnalyseFindsAsSpecifiedCardSaid : Prop := Claim7.holds Tryz.pinned (.plain (OpenSpec.ofChange analyseFindsAsSpecifiedSpec)) analyseFindsAsSpecifiedCard

/-- THE SECOND FORM's CARD OF 'weirgatelaw24.AnalyseFindsAsSpecified'. -/
def analyseFindsAsSpecifiedUptoCard : Claim7 := { stood := { row := analyseFindsAsSpecifiedUptoRow, standIns := [], harness := (true, "13bb06f10e09579f93f12e18a6942cf7211c00e0fd6f881561d20d21780b6d2e"), looks := false }, kinds := [], alts := [], laidByText := true, laidKinds := [.data, .data, .data, .data, .pinned], laidTests := true, laidLooks := .later }
def AnalyseFindsAsSpecifiedUptoCardSaid : Prop := Claim7.holds Tryz.pinned (.plain (OpenSpec.upto analyseFindsAsSpecifiedSpec)) analyseFindsAsSpecifiedUptoCard
end Rows
end Go.Proofs.YticlbkficolocaaGreatDoor
