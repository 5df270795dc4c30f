/-
  DERIVED. GIVEN WITH THE SEED: THE CARDS: each row of YtdlbfjoemabfpaaGreatDoorRows.lean that lists a variable, with what it lists TIED to the program's text (the seventh form; the later family's looks); each row that meets fmt, with fmt's text TOLD by the authors' own Lean function (tested against real Go, not proved from fmt's source: count such statements apart). THE CARD IS WHAT COUNTS. Prove the row's statement (the work); the ties are given (YtdlbfjoemabfpaaGreatDoorTie.lean); close each card by the builder's one call (the guide's Derived/Test/ToyasCard.lean, 'card_holds'). Laid BY PROGRAM, IN A SANDBOX (cutbox-door.mjs). By AI agents, Wed Nov 11 2026. No macro, syntax, notation, axiom, sorry.
-/
import Derived.Test.YtdlbfjoemabfpaaGreatDoorRows
import GoSem.ClaimSeven
namespace Go.Proofs.YtdlbfjoemabfpaaGreatDoor
namespace Rows

/-- THE TIED CARD OF 'weirgatelaw22.PolicyChecksAsSpecified'. -/
def policyChecksAsSpecifiedCard : Claim7 := { stood := { row := policyChecksAsSpecifiedRow, standIns := [], harness := (true, "3b17fa6247236408f3aa9a31baa43839d2eeabcbe1634bfdc9f3468896bf3bcb"), looks := false }, kinds := [], alts := [], laidByText := true, laidKinds := [.data, .data, .data, .data, .data, .data, .pinned], laidTests := true, laidLooks := .later }
def PolicyChecksAsSpecifiedCardSaid : Prop := Claim7.holds Tryz.pinned (.plain (OpenSpec.ofChange policyChecksAsSpecifiedSpec)) policyChecksAsSpecifiedCard

/-- THE TIED CARD OF 'weirgatelaw22.PolicyChoosesAsSpecified'. -/
def policyChoosesAsSpecifiedCard : Claim7 := { stood := { row := policyChoosesAsSpecifiedRow, standIns := [], harness := (true, "3b17fa6247236408f3aa9a31baa43839d2eeabcbe1634bfdc9f3468896bf3bcb"), looks := false }, kinds := [], alts := [], laidByText := true, laidKinds := [.data, .data, .data, .data, .data, .pinned], laidTests := true, laidLooks := .later }
def PolicyChoosesAsSpecifiedCardSaid : Prop := Claim7.holds Tryz.pinned (.plain (OpenSpec.ofChange policyChoosesAsSpecifiedSpec)) policyChoosesAsSpecifiedCard

/-- THE TIED CARD OF 'weirgatelaw22.PolicyChoosesTheFirst'. -/
def policyChoosesTheFirstCard : Claim7 := { stood := { row := policyChoosesTheFirstRow, standIns := [], harness := (true, "3b17fa6247236408f3aa9a31baa43839d2eeabcbe1634bfdc9f3468896bf3bcb"), looks := false }, kinds := [], alts := [], laidByText := true, laidKinds := [.data, .data, .data, .data, .data, .pinned], laidTests := true, laidLooks := .later }
def PolicyChoosesTheFirstCardSaid : Prop := Claim7.holds Tryz.pinned (.plain (OpenSpec.ofChange policyChoosesTheFirstSpec)) policyChoosesTheFirstCard

/-- THE TIED CARD OF 'weirgatelaw22.PolicyKeepsAges'. -/
def policyKeepsAgesCard : Claim7 := { stood := { row := policyKeepsAgesRow, standIns := [], harness := (true, "3b17fa6247236408f3aa9a31baa43839d2eeabcbe1634bfdc9f3468896bf3bcb"), looks := false }, kinds := [], alts := [], laidByText := true, laidKinds := [.data, .data, .data, .data, .data, .pinned], laidTests := true, laidLooks := .later }
def PolicyKeepsAgesCardSaid : Prop := Claim7.holds Tryz.pinned (.plain (OpenSpec.ofChange policyKeepsAgesSpec)) policyKeepsAgesCard

/-- THE TIED CARD OF 'weirgatelaw22.PolicyPermitsAsSpecified'. -/
def policyPermitsAsSpecifiedCard : Claim7 := { stood := { row := policyPermitsAsSpecifiedRow, standIns := [], harness := (true, "3b17fa6247236408f3aa9a31baa43839d2eeabcbe1634bfdc9f3468896bf3bcb"), looks := false }, kinds := [], alts := [], laidByText := true, laidKinds := [.data, .data, .data, .data, .data, .pinned], laidTests := true, laidLooks := .later }
def PolicyPermitsAsSpecifiedCardSaid : Prop := Claim7.holds Tryz.pinned (.plain (OpenSpec.ofChange policyPermitsAsSpecifiedSpec)) policyPermitsAsSpecifiedCard

/-- THE TIED CARD OF 'weirgatelaw22.PolicyAgesAsSpecified'. -/
def policyAgesAsSpecifiedCard : Claim7 := { stood := { row := policyAgesAsSpecifiedRow, standIns := [], harness := (true, "3b17fa6247236408f3aa9a31baa43839d2eeabcbe1634bfdc9f3468896bf3bcb"), looks := false }, kinds := [], alts := [], laidByText := true, laidKinds := [.data, .data, .data, .data, .data, .pinned], laidTests := true, laidLooks := .later }
def PolicyAgesAsSpecifiedCardSaid : Prop := Claim7.holds Tryz.pinned (.plain (OpenSpec.ofChange policyAgesAsSpecifiedSpec)) policyAgesAsSpecifiedCard

/-- THE SECOND FORM's CARD OF 'weirgatelaw22.PolicyChecksAsSpecified'. -/
def policyChecksAsSpecifiedUptoCard : Claim7 := { stood := { row := policyChecksAsSpecifiedUptoRow, standIns := [], harness := (true, "3b17fa6247236408f3aa9a31baa43839d2eeabcbe1634bfdc9f3468896bf3bcb"), looks := false }, kinds := [], alts := [], laidByText := true, laidKinds := [.data, .data, .data, .data, .data, .data, .pinned], laidTests := true, laidLooks := .later }
def PolicyChecksAsSpecifiedUptoCardSaid : Prop := Claim7.holds Tryz.pinned (.plain (OpenSpec.upto policyChecksAsSpecifiedSpec)) policyChecksAsSpecifiedUptoCard

/-- THE SECOND FORM's CARD OF 'weirgatelaw22.PolicyChoosesAsSpecified'. -/
def policyChoosesAsSpecifiedUptoCard : Claim7 := { stood := { row := policyChoosesAsSpecifiedUptoRow, standIns := [], harness := (true, "3b17fa6247236408f3aa9a31baa43839d2eeabcbe1634bfdc9f3468896bf3bcb"), looks := false }, kinds := [], alts := [], laidByText := true, laidKinds := [.data, .data, .data, .data, .data, .pinned], laidTests := true, laidLooks := .later }
def PolicyChoosesAsSpecifiedUptoCardSaid : Prop := Claim7.holds Tryz.pinned (.plain (OpenSpec.upto policyChoosesAsSpecifiedSpec)) policyChoosesAsSpecifiedUptoCard

/-- THE SECOND FORM's CARD OF 'weirgatelaw22.PolicyChoosesTheFirst'. -/
def policyChoosesTheFirstUptoCard : Claim7 := { stood := { row := policyChoosesTheFirstUptoRow, standIns := [], harness := (true, "3b17fa6247236408f3aa9a31baa43839d2eeabcbe1634bfdc9f3468896bf3bcb"), looks := false }, kinds := [], alts := [], laidByText := true, laidKinds := [.data, .data, .data, .data, .data, .pinned], laidTests := true, laidLooks := .later }
def PolicyChoosesTheFirstUptoCardSaid : Prop := Claim7.holds Tryz.pinned (.plain (OpenSpec.upto policyChoosesTheFirstSpec)) policyChoosesTheFirstUptoCard

/-- THE SECOND FORM's CARD OF 'weirgatelaw22.PolicyKeepsAges'. -/
def policyKeepsAgesUptoCard : Claim7 := { stood := { row := policyKeepsAgesUptoRow, standIns := [], harness := (true, "3b17fa6247236408f3aa9a31baa43839d2eeabcbe1634bfdc9f3468896bf3bcb"), looks := false }, kinds := [], alts := [], laidByText := true, laidKinds := [.data, .data, .data, .data, .data, .pinned], laidTests := true, laidLooks := .later }
def PolicyKeepsAgesUptoCardSaid : Prop := Claim7.holds Tryz.pinned (.plain (OpenSpec.upto policyKeepsAgesSpec)) policyKeepsAgesUptoCard

/-- THE SECOND FORM's CARD OF 'weirgatelaw22.PolicyPermitsAsSpecified'. -/
def policyPermitsAsSpecifiedUptoCard : Claim7 := { stood := { row := policyPermitsAsSpecifiedUptoRow, standIns := [], harness := (true, "3b17fa6247236408f3aa9a31baa43839d2eeabcbe1634bfdc9f3468896bf3bcb"), looks := false }, kinds := [], alts := [], laidByText := true, laidKinds := [.data, .data, .data, .data, .data, .pinned], laidTests := true, laidLooks := .later }
def PolicyPermitsAsSpecifiedUptoCardSaid : Prop := Claim7.holds Tryz.pinned (.plain (OpenSpec.upto policyPermitsAsSpecifiedSpec)) policyPermitsAsSpecifiedUptoCard

/-- THE SECOND FORM's CARD OF 'weirgatelaw22.PolicyAgesAsSpecified'. -/
def policyAgesAsSpecifiedUptoCard : Claim7 := { stood := { row := policyAgesAsSpecifiedUptoRow, standIns := [], harness := (true, "3b17fa6247236408f3aa9a31baa43839d2eeabcbe1634bfdc9f3468896bf3bcb"), looks := false }, kinds := [], alts := [], laidByText := true, laidKinds := [.data, .data, .data, .data, .data, .pinned], laidTests := true, laidLooks := .later }
def PolicyAgesAsSpecifiedUptoCardSaid : Prop := Claim7.holds Tryz.pinned (.plain (OpenSpec.upto policyAgesAsSpecifiedSpec)) policyAgesAsSpecifiedUptoCard
end Rows
end Go.Proofs.YtdlbfjoemabfpaaGreatDoor
