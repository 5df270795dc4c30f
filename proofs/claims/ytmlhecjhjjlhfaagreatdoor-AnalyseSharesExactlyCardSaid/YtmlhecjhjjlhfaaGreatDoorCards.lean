/-
  DERIVED. GIVEN WITH THE SEED: THE CARDS: each row of YtmlhecjhjjlhfaaGreatDoorRows.lean that lists a variable, with what it lists TIED to the program's text (the seventh form; the later family's looks); each row that meets fmt, with fmt's text TOLD by the authors' own Lean function (tested against real Go, not proved from fmt's source: count such statements apart). THE CARD IS WHAT COUNTS. Prove the row's statement (the work); the ties are given (YtmlhecjhjjlhfaaGreatDoorTie.lean); close each card by the builder's one call (the guide's Derived/Test/ToyasCard.lean, 'card_holds'). Laid BY PROGRAM, IN A SANDBOX (cutbox-door.mjs). By AI agents, Wed Nov 11 2026. No macro, syntax, notation, axiom, sorry.
-/
import Derived.Test.YtmlhecjhjjlhfaaGreatDoorRows
import GoSem.ClaimSeven
namespace Go.Proofs.YtmlhecjhjjlhfaaGreatDoor
namespace Rows

/-- THE TIED CARD OF 'weirgatelaw24.AnalyseSharesExactly'. -/
def analyseSharesExactlyCard : Claim7 := { stood := { row := analyseSharesExactlyRow, standIns := [], harness := (true, "836bdf1294344ee1b64a91ecd6d561e01bf26f3ac760b7b0d1e021b296f0be8f"), looks := false }, kinds := [], alts := [], laidByText := true, laidKinds := [.data, .data, .data, .data, .pinned], laidTests := true, laidLooks := .later }
def AnalyseSharesExactlyCardSaid : Prop := Claim7.holds Tryz.pinned (.plain (OpenSpec.ofChange analyseSharesExactlySpec)) analyseSharesExactlyCard

/-- THE TIED CARD OF 'weirgatelaw24.AnalyseFindsAsSpecified'. -/
def analyseFindsAsSpecifiedCard : Claim7 := { stood := { row := analyseFindsAsSpecifiedRow, standIns := [], harness := (true, "836bdf1294344ee1b64a91ecd6d561e01bf26f3ac760b7b0d1e021b296f0be8f"), looks := false }, kinds := [], alts := [], laidByText := true, laidKinds := [.data, .data, .data, .data, .pinned], laidTests := true, laidLooks := .later }
def AnalyseFindsAsSpecifiedCardSaid : Prop := Claim7.holds Tryz.pinned (.plain (OpenSpec.ofChange analyseFindsAsSpecifiedSpec)) analyseFindsAsSpecifiedCard

/-- THE SECOND FORM's CARD OF 'weirgatelaw24.AnalyseSharesExactly'. -/
def analyseSharesExactlyUptoCard : Claim7 := { stood := { row := analyseSharesExactlyUptoRow, standIns := [], harness := (true, "836bdf1294344ee1b64a91ecd6d561e01bf26f3ac760b7b0d1e021b296f0be8f"), looks := false }, kinds := [], alts := [], laidByText := true, laidKinds := [.data, .data, .data, .data, .pinned], laidTests := true, laidLooks := .later }
def AnalyseSharesExactlyUptoCardSaid : Prop := Claim7.holds Tryz.pinned (.plain (OpenSpec.upto analyseSharesExactlySpec)) analyseSharesExactlyUptoCard

/-- THE SECOND FORM's CARD OF 'weirgatelaw24.AnalyseFindsAsSpecified'. -/
def analyseFindsAsSpecifiedUptoCard : Claim7 := { stood := { row := analyseFindsAsSpecifiedUptoRow, standIns := [], harness := (true, "836bdf1294344ee1b64a91ecd6d561e01bf26f3ac760b7b0d1e021b296f0be8f"), looks := false }, kinds := [], alts := [], laidByText := true, laidKinds := [.data, .data, .data, .data, .pinned], laidTests := true, laidLooks := .later }
def AnalyseFindsAsSpecifiedUptoCardSaid : Prop := Claim7.holds Tryz.pinned (.plain (OpenSpec.upto analyseFindsAsSpecifiedSpec)) analyseFindsAsSpecifiedUptoCard
end Rows
end Go.Proofs.YtmlhecjhjjlhfaaGreatDoor
