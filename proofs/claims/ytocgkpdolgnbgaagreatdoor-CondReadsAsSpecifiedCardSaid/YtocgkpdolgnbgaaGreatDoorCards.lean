/-
  DERIVED. GIVEN WITH THE SEED: THE CARDS: each row of YtocgkpdolgnbgaaGreatDoorRows.lean that lists a variable, with what it lists TIED to the program's text (the seventh form; the later family's looks); each row that meets fmt, with fmt's text TOLD by the authors' own Lean function (tested against real Go, not proved from fmt's source: count such statements apart). THE CARD IS WHAT COUNTS. Prove the row's statement (the work); the ties are given (YtocgkpdolgnbgaaGreatDoorTie.lean); close each card by the builder's one call (the guide's Derived/Test/ToyasCard.lean, 'card_holds'). Laid BY PROGRAM, IN A SANDBOX (cutbox-door.mjs). By AI agents, Wed Nov 11 2026. No macro, syntax, notation, axiom, sorry.
-/
import Derived.Test.YtocgkpdolgnbgaaGreatDoorRows
import GoSem.ClaimSeven
namespace Go.Proofs.YtocgkpdolgnbgaaGreatDoor
namespace Rows

/-- THE TIED CARD OF 'weirgatelaw21.CondMeetsAsSpecified'. -/
def condMeetsAsSpecifiedCard : Claim7 := { stood := { row := condMeetsAsSpecifiedRow, standIns := [], harness := (true, "cff6053da5c08deca3c7529705c8eb85062f755b8cf9efabb131dfe30fbb79a1"), looks := true }, kinds := [], alts := [], laidByText := true, laidKinds := [.data, .data, .data, .data, .pinned], laidTests := true, laidLooks := .later }
def CondMeetsAsSpecifiedCardSaid : Prop := Claim7.holds Tryz.pinned (.plain (OpenSpec.ofChange condMeetsAsSpecifiedSpec)) condMeetsAsSpecifiedCard

/-- THE TIED CARD OF 'weirgatelaw21.CondNarrows'. -/
def condNarrowsCard : Claim7 := { stood := { row := condNarrowsRow, standIns := [], harness := (true, "cff6053da5c08deca3c7529705c8eb85062f755b8cf9efabb131dfe30fbb79a1"), looks := true }, kinds := [], alts := [], laidByText := true, laidKinds := [.data, .data, .data, .data, .pinned], laidTests := true, laidLooks := .later }
def CondNarrowsCardSaid : Prop := Claim7.holds Tryz.pinned (.plain (OpenSpec.ofChange condNarrowsSpec)) condNarrowsCard

/-- THE TIED CARD OF 'weirgatelaw21.CondReadsAsSpecified'. -/
def condReadsAsSpecifiedCard : Claim7 := { stood := { row := condReadsAsSpecifiedRow, standIns := [], harness := (true, "cff6053da5c08deca3c7529705c8eb85062f755b8cf9efabb131dfe30fbb79a1"), looks := true }, kinds := [], alts := [], laidByText := true, laidKinds := [.data, .data, .data, .data, .sentinel, .sentinel, .pinned], laidTests := true, laidLooks := .later }
def CondReadsAsSpecifiedCardSaid : Prop := Claim7.holds Tryz.pinned (.plain (OpenSpec.ofChange condReadsAsSpecifiedSpec)) condReadsAsSpecifiedCard

/-- THE TIED CARD OF 'weirgatelaw21.CondHoldsAsSpecified'. -/
def condHoldsAsSpecifiedCard : Claim7 := { stood := { row := condHoldsAsSpecifiedRow, standIns := [], harness := (true, "cff6053da5c08deca3c7529705c8eb85062f755b8cf9efabb131dfe30fbb79a1"), looks := true }, kinds := [], alts := [], laidByText := true, laidKinds := [.data, .data, .data, .data, .pinned], laidTests := true, laidLooks := .later }
def CondHoldsAsSpecifiedCardSaid : Prop := Claim7.holds Tryz.pinned (.plain (OpenSpec.ofChange condHoldsAsSpecifiedSpec)) condHoldsAsSpecifiedCard

/-- THE TIED CARD OF 'weirgatelaw21.CondImpliesExactly'. -/
def condImpliesExactlyCard : Claim7 := { stood := { row := condImpliesExactlyRow, standIns := [], harness := (true, "cff6053da5c08deca3c7529705c8eb85062f755b8cf9efabb131dfe30fbb79a1"), looks := true }, kinds := [], alts := [], laidByText := true, laidKinds := [.data, .data, .data, .data, .pinned], laidTests := true, laidLooks := .later }
def CondImpliesExactlyCardSaid : Prop := Claim7.holds Tryz.pinned (.plain (OpenSpec.ofChange condImpliesExactlySpec)) condImpliesExactlyCard

/-- THE TIED CARD OF 'weirgatelaw21.CondMeetIsBoth'. -/
def condMeetIsBothCard : Claim7 := { stood := { row := condMeetIsBothRow, standIns := [], harness := (true, "cff6053da5c08deca3c7529705c8eb85062f755b8cf9efabb131dfe30fbb79a1"), looks := true }, kinds := [], alts := [], laidByText := true, laidKinds := [.data, .data, .data, .data, .pinned], laidTests := true, laidLooks := .later }
def CondMeetIsBothCardSaid : Prop := Claim7.holds Tryz.pinned (.plain (OpenSpec.ofChange condMeetIsBothSpec)) condMeetIsBothCard

/-- THE TIED CARD OF 'weirgatelaw21.CondEmptyExactly'. -/
def condEmptyExactlyCard : Claim7 := { stood := { row := condEmptyExactlyRow, standIns := [], harness := (true, "cff6053da5c08deca3c7529705c8eb85062f755b8cf9efabb131dfe30fbb79a1"), looks := true }, kinds := [], alts := [], laidByText := true, laidKinds := [.data, .data, .data, .data, .pinned], laidTests := true, laidLooks := .later }
def CondEmptyExactlyCardSaid : Prop := Claim7.holds Tryz.pinned (.plain (OpenSpec.ofChange condEmptyExactlySpec)) condEmptyExactlyCard

/-- THE SECOND FORM's CARD OF 'weirgatelaw21.CondMeetsAsSpecified'. -/
def condMeetsAsSpecifiedUptoCard : Claim7 := { stood := { row := condMeetsAsSpecifiedUptoRow, standIns := [], harness := (true, "cff6053da5c08deca3c7529705c8eb85062f755b8cf9efabb131dfe30fbb79a1"), looks := true }, kinds := [], alts := [], laidByText := true, laidKinds := [.data, .data, .data, .data, .pinned], laidTests := true, laidLooks := .later }
def CondMeetsAsSpecifiedUptoCardSaid : Prop := Claim7.holds Tryz.pinned (.plain (OpenSpec.upto condMeetsAsSpecifiedSpec)) condMeetsAsSpecifiedUptoCard

/-- THE SECOND FORM's CARD OF 'weirgatelaw21.CondNarrows'. -/
def condNarrowsUptoCard : Claim7 := { stood := { row := condNarrowsUptoRow, standIns := [], harness := (true, "cff6053da5c08deca3c7529705c8eb85062f755b8cf9efabb131dfe30fbb79a1"), looks := true }, kinds := [], alts := [], laidByText := true, laidKinds := [.data, .data, .data, .data, .pinned], laidTests := true, laidLooks := .later }
def CondNarrowsUptoCardSaid : Prop := Claim7.holds Tryz.pinned (.plain (OpenSpec.upto condNarrowsSpec)) condNarrowsUptoCard

/-- THE SECOND FORM's CARD OF 'weirgatelaw21.CondReadsAsSpecified'. -/
def condReadsAsSpecifiedUptoCard : Claim7 := { stood := { row := condReadsAsSpecifiedUptoRow, standIns := [], harness := (true, "cff6053da5c08deca3c7529705c8eb85062f755b8cf9efabb131dfe30fbb79a1"), looks := true }, kinds := [], alts := [], laidByText := true, laidKinds := [.data, .data, .data, .data, .sentinel, .sentinel, .pinned], laidTests := true, laidLooks := .later }
def CondReadsAsSpecifiedUptoCardSaid : Prop := Claim7.holds Tryz.pinned (.plain (OpenSpec.upto condReadsAsSpecifiedSpec)) condReadsAsSpecifiedUptoCard

/-- THE SECOND FORM's CARD OF 'weirgatelaw21.CondHoldsAsSpecified'. -/
def condHoldsAsSpecifiedUptoCard : Claim7 := { stood := { row := condHoldsAsSpecifiedUptoRow, standIns := [], harness := (true, "cff6053da5c08deca3c7529705c8eb85062f755b8cf9efabb131dfe30fbb79a1"), looks := true }, kinds := [], alts := [], laidByText := true, laidKinds := [.data, .data, .data, .data, .pinned], laidTests := true, laidLooks := .later }
def CondHoldsAsSpecifiedUptoCardSaid : Prop := Claim7.holds Tryz.pinned (.plain (OpenSpec.upto condHoldsAsSpecifiedSpec)) condHoldsAsSpecifiedUptoCard

/-- THE SECOND FORM's CARD OF 'weirgatelaw21.CondImpliesExactly'. -/
def condImpliesExactlyUptoCard : Claim7 := { stood := { row := condImpliesExactlyUptoRow, standIns := [], harness := (true, "cff6053da5c08deca3c7529705c8eb85062f755b8cf9efabb131dfe30fbb79a1"), looks := true }, kinds := [], alts := [], laidByText := true, laidKinds := [.data, .data, .data, .data, .pinned], laidTests := true, laidLooks := .later }
def CondImpliesExactlyUptoCardSaid : Prop := Claim7.holds Tryz.pinned (.plain (OpenSpec.upto condImpliesExactlySpec)) condImpliesExactlyUptoCard

/-- THE SECOND FORM's CARD OF 'weirgatelaw21.CondMeetIsBoth'. -/
def condMeetIsBothUptoCard : Claim7 := { stood := { row := condMeetIsBothUptoRow, standIns := [], harness := (true, "cff6053da5c08deca3c7529705c8eb85062f755b8cf9efabb131dfe30fbb79a1"), looks := true }, kinds := [], alts := [], laidByText := true, laidKinds := [.data, .data, .data, .data, .pinned], laidTests := true, laidLooks := .later }
def CondMeetIsBothUptoCardSaid : Prop := Claim7.holds Tryz.pinned (.plain (OpenSpec.upto condMeetIsBothSpec)) condMeetIsBothUptoCard

/-- THE SECOND FORM's CARD OF 'weirgatelaw21.CondEmptyExactly'. -/
def condEmptyExactlyUptoCard : Claim7 := { stood := { row := condEmptyExactlyUptoRow, standIns := [], harness := (true, "cff6053da5c08deca3c7529705c8eb85062f755b8cf9efabb131dfe30fbb79a1"), looks := true }, kinds := [], alts := [], laidByText := true, laidKinds := [.data, .data, .data, .data, .pinned], laidTests := true, laidLooks := .later }
def CondEmptyExactlyUptoCardSaid : Prop := Claim7.holds Tryz.pinned (.plain (OpenSpec.upto condEmptyExactlySpec)) condEmptyExactlyUptoCard
end Rows
end Go.Proofs.YtocgkpdolgnbgaaGreatDoor
