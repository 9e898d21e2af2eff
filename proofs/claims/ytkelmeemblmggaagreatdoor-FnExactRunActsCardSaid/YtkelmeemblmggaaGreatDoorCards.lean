/-
  DERIVED. GIVEN WITH THE SEED: THE CARDS: each row of YtkelmeemblmggaaGreatDoorRows.lean that lists a variable, with what it lists TIED to the program's text (the seventh form; the later family's looks); each row that meets fmt, with fmt's text TOLD by the authors' own Lean function (tested against real Go, not proved from fmt's source: count such statements apart). THE CARD IS WHAT COUNTS. Prove the row's statement (the work); the ties are given (YtkelmeemblmggaaGreatDoorTie.lean); close each card by the builder's one call (the guide's Derived/Test/ToyasCard.lean, 'card_holds'). Laid BY PROGRAM, IN A SANDBOX (cutbox-door.mjs). By AI agents, Wed Nov 11 2026. No macro, syntax, notation, axiom, sorry.
-/
import Derived.Test.YtkelmeemblmggaaGreatDoorRows
import GoSem.ClaimSeven
namespace Go.Proofs.YtkelmeemblmggaaGreatDoor
namespace Rows

/-- THE TIED CARD OF 'laws.FnTop'. -/
def fnTopCard : Claim7 := { stood := { row := fnTopRow, standIns := [], harness := (true, "eca7bd33e0138cdb4f21d3ed5d4cdf074019afb377fc3f368353adcc6ffaab10"), looks := false }, kinds := [], alts := [], laidByText := true, laidKinds := [.data, .data, .data, .data, .pinned], laidTests := true, laidLooks := .later }
def FnTopCardSaid : Prop := Claim7.holds Tryz.pinned (.plain (OpenSpec.ofChange fnTopSpec)) fnTopCard

/-- THE TIED CARD OF 'laws.FnExactNightMove'. -/
def fnExactNightMoveCard : Claim7 := { stood := { row := fnExactNightMoveRow, standIns := [], harness := (true, "eca7bd33e0138cdb4f21d3ed5d4cdf074019afb377fc3f368353adcc6ffaab10"), looks := false }, kinds := [], alts := [], laidByText := true, laidKinds := [.data, .data, .data], laidTests := true, laidLooks := .later }
def FnExactNightMoveCardSaid : Prop := Claim7.holds Tryz.pinned (.plain (OpenSpec.ofChange fnExactNightMoveSpec)) fnExactNightMoveCard

/-- THE TIED CARD OF 'laws.FnExactAuditMuseum'. -/
def fnExactAuditMuseumCard : Claim7 := { stood := { row := fnExactAuditMuseumRow, standIns := [], harness := (true, "eca7bd33e0138cdb4f21d3ed5d4cdf074019afb377fc3f368353adcc6ffaab10"), looks := false }, kinds := [], alts := [], laidByText := true, laidKinds := [.data, .data, .data, .data, .pinned], laidTests := true, laidLooks := .later }
def FnExactAuditMuseumCardSaid : Prop := Claim7.holds Tryz.pinned (.plain (OpenSpec.ofChange fnExactAuditMuseumSpec)) fnExactAuditMuseumCard

/-- THE TIED CARD OF 'laws.FnExactFirstFraud'. -/
def fnExactFirstFraudCard : Claim7 := { stood := { row := fnExactFirstFraudRow, standIns := [], harness := (true, "eca7bd33e0138cdb4f21d3ed5d4cdf074019afb377fc3f368353adcc6ffaab10"), looks := false }, kinds := [], alts := [], laidByText := true, laidKinds := [.data, .data, .data, .data, .pinned], laidTests := true, laidLooks := .later }
def FnExactFirstFraudCardSaid : Prop := Claim7.holds Tryz.pinned (.plain (OpenSpec.ofChange fnExactFirstFraudSpec)) fnExactFirstFraudCard

/-- THE TIED CARD OF 'laws.FnMuseums'. -/
def fnMuseumsCard : Claim7 := { stood := { row := fnMuseumsRow, standIns := [], harness := (true, "eca7bd33e0138cdb4f21d3ed5d4cdf074019afb377fc3f368353adcc6ffaab10"), looks := false }, kinds := [], alts := [], laidByText := true, laidKinds := [.data, .data, .data, .data, .pinned], laidTests := true, laidLooks := .later }
def FnMuseumsCardSaid : Prop := Claim7.holds Tryz.pinned (.plain (OpenSpec.ofChange fnMuseumsSpec)) fnMuseumsCard

/-- THE TIED CARD OF 'laws.FnScenarios'. -/
def fnScenariosCard : Claim7 := { stood := { row := fnScenariosRow, standIns := [], harness := (true, "eca7bd33e0138cdb4f21d3ed5d4cdf074019afb377fc3f368353adcc6ffaab10"), looks := false }, kinds := [], alts := [], laidByText := true, laidKinds := [.data, .data, .data, .data, .pinned], laidTests := true, laidLooks := .later }
def FnScenariosCardSaid : Prop := Claim7.holds Tryz.pinned (.plain (OpenSpec.ofChange fnScenariosSpec)) fnScenariosCard

/-- THE TIED CARD OF 'laws.FnReplays'. -/
def fnReplaysCard : Claim7 := { stood := { row := fnReplaysRow, standIns := [], harness := (true, "eca7bd33e0138cdb4f21d3ed5d4cdf074019afb377fc3f368353adcc6ffaab10"), looks := false }, kinds := [], alts := [], laidByText := true, laidKinds := [.data, .data, .data, .data, .pinned], laidTests := true, laidLooks := .later }
def FnReplaysCardSaid : Prop := Claim7.holds Tryz.pinned (.plain (OpenSpec.ofChange fnReplaysSpec)) fnReplaysCard

/-- THE TIED CARD OF 'laws.FnScripts'. -/
def fnScriptsCard : Claim7 := { stood := { row := fnScriptsRow, standIns := [], harness := (true, "eca7bd33e0138cdb4f21d3ed5d4cdf074019afb377fc3f368353adcc6ffaab10"), looks := false }, kinds := [], alts := [], laidByText := true, laidKinds := [.data, .data, .data, .data, .pinned], laidTests := true, laidLooks := .later }
def FnScriptsCardSaid : Prop := Claim7.holds Tryz.pinned (.plain (OpenSpec.ofChange fnScriptsSpec)) fnScriptsCard

/-- THE TIED CARD OF 'laws.FnExactIsReplay'. -/
def fnExactIsReplayCard : Claim7 := { stood := { row := fnExactIsReplayRow, standIns := [], harness := (true, "eca7bd33e0138cdb4f21d3ed5d4cdf074019afb377fc3f368353adcc6ffaab10"), looks := false }, kinds := [], alts := [], laidByText := true, laidKinds := [.data, .data, .data, .data, .pinned], laidTests := true, laidLooks := .later }
def FnExactIsReplayCardSaid : Prop := Claim7.holds Tryz.pinned (.plain (OpenSpec.ofChange fnExactIsReplaySpec)) fnExactIsReplayCard

/-- THE TIED CARD OF 'laws.FnExactDoAct'. -/
def fnExactDoActCard : Claim7 := { stood := { row := fnExactDoActRow, standIns := [], harness := (true, "eca7bd33e0138cdb4f21d3ed5d4cdf074019afb377fc3f368353adcc6ffaab10"), looks := false }, kinds := [], alts := [], laidByText := true, laidKinds := [.data, .data, .data, .data, .pinned], laidTests := true, laidLooks := .later }
def FnExactDoActCardSaid : Prop := Claim7.holds Tryz.pinned (.plain (OpenSpec.ofChange fnExactDoActSpec)) fnExactDoActCard

/-- THE TIED CARD OF 'laws.FnExactRunScript'. -/
def fnExactRunScriptCard : Claim7 := { stood := { row := fnExactRunScriptRow, standIns := [], harness := (true, "eca7bd33e0138cdb4f21d3ed5d4cdf074019afb377fc3f368353adcc6ffaab10"), looks := false }, kinds := [], alts := [], laidByText := true, laidKinds := [.data, .data, .data, .data, .pinned], laidTests := true, laidLooks := .later }
def FnExactRunScriptCardSaid : Prop := Claim7.holds Tryz.pinned (.plain (OpenSpec.ofChange fnExactRunScriptSpec)) fnExactRunScriptCard

/-- THE TIED CARD OF 'laws.FnExactRunActs'. -/
def fnExactRunActsCard : Claim7 := { stood := { row := fnExactRunActsRow, standIns := [], harness := (true, "eca7bd33e0138cdb4f21d3ed5d4cdf074019afb377fc3f368353adcc6ffaab10"), looks := false }, kinds := [], alts := [], laidByText := true, laidKinds := [.data, .data, .data, .data, .pinned], laidTests := true, laidLooks := .later }
def FnExactRunActsCardSaid : Prop := Claim7.holds Tryz.pinned (.plain (OpenSpec.ofChange fnExactRunActsSpec)) fnExactRunActsCard

/-- THE SECOND FORM's CARD OF 'laws.FnTop'. -/
def fnTopUptoCard : Claim7 := { stood := { row := fnTopUptoRow, standIns := [], harness := (true, "eca7bd33e0138cdb4f21d3ed5d4cdf074019afb377fc3f368353adcc6ffaab10"), looks := false }, kinds := [], alts := [], laidByText := true, laidKinds := [.data, .data, .data, .data, .pinned], laidTests := true, laidLooks := .later }
def FnTopUptoCardSaid : Prop := Claim7.holds Tryz.pinned (.plain (OpenSpec.upto fnTopSpec)) fnTopUptoCard

/-- THE SECOND FORM's CARD OF 'laws.FnExactNightMove'. -/
def fnExactNightMoveUptoCard : Claim7 := { stood := { row := fnExactNightMoveUptoRow, standIns := [], harness := (true, "eca7bd33e0138cdb4f21d3ed5d4cdf074019afb377fc3f368353adcc6ffaab10"), looks := false }, kinds := [], alts := [], laidByText := true, laidKinds := [.data, .data, .data], laidTests := true, laidLooks := .later }
def FnExactNightMoveUptoCardSaid : Prop := Claim7.holds Tryz.pinned (.plain (OpenSpec.upto fnExactNightMoveSpec)) fnExactNightMoveUptoCard

/-- THE SECOND FORM's CARD OF 'laws.FnExactAuditMuseum'. -/
def fnExactAuditMuseumUptoCard : Claim7 := { stood := { row := fnExactAuditMuseumUptoRow, standIns := [], harness := (true, "eca7bd33e0138cdb4f21d3ed5d4cdf074019afb377fc3f368353adcc6ffaab10"), looks := false }, kinds := [], alts := [], laidByText := true, laidKinds := [.data, .data, .data, .data, .pinned], laidTests := true, laidLooks := .later }
def FnExactAuditMuseumUptoCardSaid : Prop := Claim7.holds Tryz.pinned (.plain (OpenSpec.upto fnExactAuditMuseumSpec)) fnExactAuditMuseumUptoCard

/-- THE SECOND FORM's CARD OF 'laws.FnExactFirstFraud'. -/
def fnExactFirstFraudUptoCard : Claim7 := { stood := { row := fnExactFirstFraudUptoRow, standIns := [], harness := (true, "eca7bd33e0138cdb4f21d3ed5d4cdf074019afb377fc3f368353adcc6ffaab10"), looks := false }, kinds := [], alts := [], laidByText := true, laidKinds := [.data, .data, .data, .data, .pinned], laidTests := true, laidLooks := .later }
def FnExactFirstFraudUptoCardSaid : Prop := Claim7.holds Tryz.pinned (.plain (OpenSpec.upto fnExactFirstFraudSpec)) fnExactFirstFraudUptoCard

/-- THE SECOND FORM's CARD OF 'laws.FnMuseums'. -/
def fnMuseumsUptoCard : Claim7 := { stood := { row := fnMuseumsUptoRow, standIns := [], harness := (true, "eca7bd33e0138cdb4f21d3ed5d4cdf074019afb377fc3f368353adcc6ffaab10"), looks := false }, kinds := [], alts := [], laidByText := true, laidKinds := [.data, .data, .data, .data, .pinned], laidTests := true, laidLooks := .later }
def FnMuseumsUptoCardSaid : Prop := Claim7.holds Tryz.pinned (.plain (OpenSpec.upto fnMuseumsSpec)) fnMuseumsUptoCard

/-- THE SECOND FORM's CARD OF 'laws.FnScenarios'. -/
def fnScenariosUptoCard : Claim7 := { stood := { row := fnScenariosUptoRow, standIns := [], harness := (true, "eca7bd33e0138cdb4f21d3ed5d4cdf074019afb377fc3f368353adcc6ffaab10"), looks := false }, kinds := [], alts := [], laidByText := true, laidKinds := [.data, .data, .data, .data, .pinned], laidTests := true, laidLooks := .later }
def FnScenariosUptoCardSaid : Prop := Claim7.holds Tryz.pinned (.plain (OpenSpec.upto fnScenariosSpec)) fnScenariosUptoCard

/-- THE SECOND FORM's CARD OF 'laws.FnReplays'. -/
def fnReplaysUptoCard : Claim7 := { stood := { row := fnReplaysUptoRow, standIns := [], harness := (true, "eca7bd33e0138cdb4f21d3ed5d4cdf074019afb377fc3f368353adcc6ffaab10"), looks := false }, kinds := [], alts := [], laidByText := true, laidKinds := [.data, .data, .data, .data, .pinned], laidTests := true, laidLooks := .later }
def FnReplaysUptoCardSaid : Prop := Claim7.holds Tryz.pinned (.plain (OpenSpec.upto fnReplaysSpec)) fnReplaysUptoCard

/-- THE SECOND FORM's CARD OF 'laws.FnScripts'. -/
def fnScriptsUptoCard : Claim7 := { stood := { row := fnScriptsUptoRow, standIns := [], harness := (true, "eca7bd33e0138cdb4f21d3ed5d4cdf074019afb377fc3f368353adcc6ffaab10"), looks := false }, kinds := [], alts := [], laidByText := true, laidKinds := [.data, .data, .data, .data, .pinned], laidTests := true, laidLooks := .later }
def FnScriptsUptoCardSaid : Prop := Claim7.holds Tryz.pinned (.plain (OpenSpec.upto fnScriptsSpec)) fnScriptsUptoCard

/-- THE SECOND FORM's CARD OF 'laws.FnExactIsReplay'. -/
def fnExactIsReplayUptoCard : Claim7 := { stood := { row := fnExactIsReplayUptoRow, standIns := [], harness := (true, "eca7bd33e0138cdb4f21d3ed5d4cdf074019afb377fc3f368353adcc6ffaab10"), looks := false }, kinds := [], alts := [], laidByText := true, laidKinds := [.data, .data, .data, .data, .pinned], laidTests := true, laidLooks := .later }
def FnExactIsReplayUptoCardSaid : Prop := Claim7.holds Tryz.pinned (.plain (OpenSpec.upto fnExactIsReplaySpec)) fnExactIsReplayUptoCard

/-- THE SECOND FORM's CARD OF 'laws.FnExactDoAct'. -/
def fnExactDoActUptoCard : Claim7 := { stood := { row := fnExactDoActUptoRow, standIns := [], harness := (true, "eca7bd33e0138cdb4f21d3ed5d4cdf074019afb377fc3f368353adcc6ffaab10"), looks := false }, kinds := [], alts := [], laidByText := true, laidKinds := [.data, .data, .data, .data, .pinned], laidTests := true, laidLooks := .later }
def FnExactDoActUptoCardSaid : Prop := Claim7.holds Tryz.pinned (.plain (OpenSpec.upto fnExactDoActSpec)) fnExactDoActUptoCard

/-- THE SECOND FORM's CARD OF 'laws.FnExactRunScript'. -/
def fnExactRunScriptUptoCard : Claim7 := { stood := { row := fnExactRunScriptUptoRow, standIns := [], harness := (true, "eca7bd33e0138cdb4f21d3ed5d4cdf074019afb377fc3f368353adcc6ffaab10"), looks := false }, kinds := [], alts := [], laidByText := true, laidKinds := [.data, .data, .data, .data, .pinned], laidTests := true, laidLooks := .later }
def FnExactRunScriptUptoCardSaid : Prop := Claim7.holds Tryz.pinned (.plain (OpenSpec.upto fnExactRunScriptSpec)) fnExactRunScriptUptoCard

/-- THE SECOND FORM's CARD OF 'laws.FnExactRunActs'. -/
def fnExactRunActsUptoCard : Claim7 := { stood := { row := fnExactRunActsUptoRow, standIns := [], harness := (true, "eca7bd33e0138cdb4f21d3ed5d4cdf074019afb377fc3f368353adcc6ffaab10"), looks := false }, kinds := [], alts := [], laidByText := true, laidKinds := [.data, .data, .data, .data, .pinned], laidTests := true, laidLooks := .later }
def FnExactRunActsUptoCardSaid : Prop := Claim7.holds Tryz.pinned (.plain (OpenSpec.upto fnExactRunActsSpec)) fnExactRunActsUptoCard
end Rows
end Go.Proofs.YtkelmeemblmggaaGreatDoor
