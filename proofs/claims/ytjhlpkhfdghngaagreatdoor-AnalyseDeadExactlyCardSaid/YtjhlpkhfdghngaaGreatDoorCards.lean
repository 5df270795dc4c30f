/-
  DERIVED. GIVEN WITH THE SEED: THE CARDS: each row of YtjhlpkhfdghngaaGreatDoorRows.lean that lists a variable, with what it lists TIED to the program's text (the seventh form; the later family's looks); each row that meets fmt, with fmt's text TOLD by the authors' own Lean function (tested against real Go, not proved from fmt's source: count such statements apart). THE CARD IS WHAT COUNTS. Prove the row's statement (the work); the ties are given (YtjhlpkhfdghngaaGreatDoorTie.lean); close each card by the builder's one call (the guide's Derived/Test/ToyasCard.lean, 'card_holds'). Laid BY PROGRAM, IN A SANDBOX (cutbox-door.mjs). By AI agents, Wed Nov 11 2026. No macro, syntax, notation, axiom, sorry.
-/
import Derived.Test.YtjhlpkhfdghngaaGreatDoorRows
import GoSem.ClaimSeven
namespace Go.Proofs.YtjhlpkhfdghngaaGreatDoor
namespace Rows

/-- THE TIED CARD OF 'weirgatelaw22.PolicyChecksAsSpecified'. -/
def policyChecksAsSpecifiedCard : Claim7 := { stood := { row := policyChecksAsSpecifiedRow, standIns := [], harness := (true, "3386f5f254240ddb2b370fcadbac876b6212de6046e3655daf01cc35eaf0963b"), looks := false }, kinds := [], alts := [], laidByText := true, laidKinds := [.data, .data, .data, .data, .data, .data, .pinned], laidTests := true, laidLooks := .later }
def PolicyChecksAsSpecifiedCardSaid : Prop := Claim7.holds Tryz.pinned (.plain (OpenSpec.ofChange policyChecksAsSpecifiedSpec)) policyChecksAsSpecifiedCard

/-- THE TIED CARD OF 'weirgatelaw24.AnalyseGapsExactly'. -/
def analyseGapsExactlyCard : Claim7 := { stood := { row := analyseGapsExactlyRow, standIns := [], harness := (true, "3386f5f254240ddb2b370fcadbac876b6212de6046e3655daf01cc35eaf0963b"), looks := false }, kinds := [], alts := [], laidByText := true, laidKinds := [.data, .data, .data, .data, .pinned], laidTests := true, laidLooks := .later }
def AnalyseGapsExactlyCardSaid : Prop := Claim7.holds Tryz.pinned (.plain (OpenSpec.ofChange analyseGapsExactlySpec)) analyseGapsExactlyCard

/-- THE TIED CARD OF 'weirgatelaw24.AnalyseShadowsExactly'. -/
def analyseShadowsExactlyCard : Claim7 := { stood := { row := analyseShadowsExactlyRow, standIns := [], harness := (true, "3386f5f254240ddb2b370fcadbac876b6212de6046e3655daf01cc35eaf0963b"), looks := false }, kinds := [], alts := [], laidByText := true, laidKinds := [.data, .data, .data, .data, .pinned], laidTests := true, laidLooks := .later }
def AnalyseShadowsExactlyCardSaid : Prop := Claim7.holds Tryz.pinned (.plain (OpenSpec.ofChange analyseShadowsExactlySpec)) analyseShadowsExactlyCard

/-- THE TIED CARD OF 'weirgatelaw24.AnalyseDeadExactly'. -/
def analyseDeadExactlyCard : Claim7 := { stood := { row := analyseDeadExactlyRow, standIns := [], harness := (true, "3386f5f254240ddb2b370fcadbac876b6212de6046e3655daf01cc35eaf0963b"), looks := false }, kinds := [], alts := [], laidByText := true, laidKinds := [.data, .data, .data, .data, .pinned], laidTests := true, laidLooks := .later }
def AnalyseDeadExactlyCardSaid : Prop := Claim7.holds Tryz.pinned (.plain (OpenSpec.ofChange analyseDeadExactlySpec)) analyseDeadExactlyCard

/-- THE TIED CARD OF 'weirgatelaw24.AnalyseSeesAll'. -/
def analyseSeesAllCard : Claim7 := { stood := { row := analyseSeesAllRow, standIns := [], harness := (true, "3386f5f254240ddb2b370fcadbac876b6212de6046e3655daf01cc35eaf0963b"), looks := false }, kinds := [], alts := [], laidByText := true, laidKinds := [.data, .data, .data, .data, .pinned], laidTests := true, laidLooks := .later }
def AnalyseSeesAllCardSaid : Prop := Claim7.holds Tryz.pinned (.plain (OpenSpec.ofChange analyseSeesAllSpec)) analyseSeesAllCard

/-- THE TIED CARD OF 'weirgatelaw24.AnalyseSharesExactly'. -/
def analyseSharesExactlyCard : Claim7 := { stood := { row := analyseSharesExactlyRow, standIns := [], harness := (true, "3386f5f254240ddb2b370fcadbac876b6212de6046e3655daf01cc35eaf0963b"), looks := false }, kinds := [], alts := [], laidByText := true, laidKinds := [.data, .data, .data, .data, .pinned], laidTests := true, laidLooks := .later }
def AnalyseSharesExactlyCardSaid : Prop := Claim7.holds Tryz.pinned (.plain (OpenSpec.ofChange analyseSharesExactlySpec)) analyseSharesExactlyCard

/-- THE TIED CARD OF 'weirgatelaw24.AnalyseFindsAsSpecified'. -/
def analyseFindsAsSpecifiedCard : Claim7 := { stood := { row := analyseFindsAsSpecifiedRow, standIns := [], harness := (true, "3386f5f254240ddb2b370fcadbac876b6212de6046e3655daf01cc35eaf0963b"), looks := false }, kinds := [], alts := [], laidByText := true, laidKinds := [.data, .data, .data, .data, .pinned], laidTests := true, laidLooks := .later }
def AnalyseFindsAsSpecifiedCardSaid : Prop := Claim7.holds Tryz.pinned (.plain (OpenSpec.ofChange analyseFindsAsSpecifiedSpec)) analyseFindsAsSpecifiedCard

/-- THE SECOND FORM's CARD OF 'weirgatelaw22.PolicyChecksAsSpecified'. -/
def policyChecksAsSpecifiedUptoCard : Claim7 := { stood := { row := policyChecksAsSpecifiedUptoRow, standIns := [], harness := (true, "3386f5f254240ddb2b370fcadbac876b6212de6046e3655daf01cc35eaf0963b"), looks := false }, kinds := [], alts := [], laidByText := true, laidKinds := [.data, .data, .data, .data, .data, .data, .pinned], laidTests := true, laidLooks := .later }
def PolicyChecksAsSpecifiedUptoCardSaid : Prop := Claim7.holds Tryz.pinned (.plain (OpenSpec.upto policyChecksAsSpecifiedSpec)) policyChecksAsSpecifiedUptoCard

/-- THE SECOND FORM's CARD OF 'weirgatelaw24.AnalyseGapsExactly'. -/
def analyseGapsExactlyUptoCard : Claim7 := { stood := { row := analyseGapsExactlyUptoRow, standIns := [], harness := (true, "3386f5f254240ddb2b370fcadbac876b6212de6046e3655daf01cc35eaf0963b"), looks := false }, kinds := [], alts := [], laidByText := true, laidKinds := [.data, .data, .data, .data, .pinned], laidTests := true, laidLooks := .later }
def AnalyseGapsExactlyUptoCardSaid : Prop := Claim7.holds Tryz.pinned (.plain (OpenSpec.upto analyseGapsExactlySpec)) analyseGapsExactlyUptoCard

/-- THE SECOND FORM's CARD OF 'weirgatelaw24.AnalyseShadowsExactly'. -/
def analyseShadowsExactlyUptoCard : Claim7 := { stood := { row := analyseShadowsExactlyUptoRow, standIns := [], harness := (true, "3386f5f254240ddb2b370fcadbac876b6212de6046e3655daf01cc35eaf0963b"), looks := false }, kinds := [], alts := [], laidByText := true, laidKinds := [.data, .data, .data, .data, .pinned], laidTests := true, laidLooks := .later }
def AnalyseShadowsExactlyUptoCardSaid : Prop := Claim7.holds Tryz.pinned (.plain (OpenSpec.upto analyseShadowsExactlySpec)) analyseShadowsExactlyUptoCard

/-- THE SECOND FORM's CARD OF 'weirgatelaw24.AnalyseDeadExactly'. -/
def analyseDeadExactlyUptoCard : Claim7 := { stood := { row := analyseDeadExactlyUptoRow, standIns := [], harness := (true, "3386f5f254240ddb2b370fcadbac876b6212de6046e3655daf01cc35eaf0963b"), looks := false }, kinds := [], alts := [], laidByText := true, laidKinds := [.data, .data, .data, .data, .pinned], laidTests := true, laidLooks := .later }
def AnalyseDeadExactlyUptoCardSaid : Prop := Claim7.holds Tryz.pinned (.plain (OpenSpec.upto analyseDeadExactlySpec)) analyseDeadExactlyUptoCard

/-- THE SECOND FORM's CARD OF 'weirgatelaw24.AnalyseSeesAll'. -/
def analyseSeesAllUptoCard : Claim7 := { stood := { row := analyseSeesAllUptoRow, standIns := [], harness := (true, "3386f5f254240ddb2b370fcadbac876b6212de6046e3655daf01cc35eaf0963b"), looks := false }, kinds := [], alts := [], laidByText := true, laidKinds := [.data, .data, .data, .data, .pinned], laidTests := true, laidLooks := .later }
def AnalyseSeesAllUptoCardSaid : Prop := Claim7.holds Tryz.pinned (.plain (OpenSpec.upto analyseSeesAllSpec)) analyseSeesAllUptoCard

/-- THE SECOND FORM's CARD OF 'weirgatelaw24.AnalyseSharesExactly'. -/
def analyseSharesExactlyUptoCard : Claim7 := { stood := { row := analyseSharesExactlyUptoRow, standIns := [], harness := (true, "3386f5f254240ddb2b370fcadbac876b6212de6046e3655daf01cc35eaf0963b"), looks := false }, kinds := [], alts := [], laidByText := true, laidKinds := [.data, .data, .data, .data, .pinned], laidTests := true, laidLooks := .later }
def AnalyseSharesExactlyUptoCardSaid : Prop := Claim7.holds Tryz.pinned (.plain (OpenSpec.upto analyseSharesExactlySpec)) analyseSharesExactlyUptoCard

/-- THE SECOND FORM's CARD OF 'weirgatelaw24.AnalyseFindsAsSpecified'. -/
def analyseFindsAsSpecifiedUptoCard : Claim7 := { stood := { row := analyseFindsAsSpecifiedUptoRow, standIns := [], harness := (true, "3386f5f254240ddb2b370fcadbac876b6212de6046e3655daf01cc35eaf0963b"), looks := false }, kinds := [], alts := [], laidByText := true, laidKinds := [.data, .data, .data, .data, .pinned], laidTests := true, laidLooks := .later }
def AnalyseFindsAsSpecifiedUptoCardSaid : Prop := Claim7.holds Tryz.pinned (.plain (OpenSpec.upto analyseFindsAsSpecifiedSpec)) analyseFindsAsSpecifiedUptoCard
end Rows
end Go.Proofs.YtjhlpkhfdghngaaGreatDoor
