/-
  DERIVED. GIVEN WITH THE SEED: THE CARDS: each row of YtfmifllcbbfpoaaGreatDoorRows.lean that lists a variable, with what it lists TIED to the program's text (the seventh form; the later family's looks); each row that meets fmt, with fmt's text TOLD by the authors' own Lean function (tested against real Go, not proved from fmt's source: count such statements apart). THE CARD IS WHAT COUNTS. Prove the row's statement (the work); the ties are given (YtfmifllcbbfpoaaGreatDoorTie.lean); close each card by the builder's one call (the guide's Derived/Test/ToyasCard.lean, 'card_holds'). Laid BY PROGRAM, IN A SANDBOX (cutbox-door.mjs). By AI agents, Wed Nov 11 2026. No macro, syntax, notation, axiom, sorry.
-/
import Derived.Test.YtfmifllcbbfpoaaGreatDoorRows
import GoSem.ClaimSeven
namespace Go.Proofs.YtfmifllcbbfpoaaGreatDoor
namespace Rows

/-- THE TIED CARD OF 'laws.FnTop'. -/
def fnTopCard : Claim7 := { stood := { row := fnTopRow, standIns := [], harness := (true, "cf5f88859fc65df3b9a3c73e44174c1e4454631e3ea11393b0789fd3be752ff6"), looks := false }, kinds := [], alts := [], laidByText := true, laidKinds := [.data, .data, .data, .data, .pinned], laidTests := true, laidLooks := .later }
def FnTopCardSaid : Prop := Claim7.holds Tryz.pinned (.plain (OpenSpec.ofChange fnTopSpec)) fnTopCard

/-- THE TIED CARD OF 'laws.FnMuseums'. -/
def fnMuseumsCard : Claim7 := { stood := { row := fnMuseumsRow, standIns := [], harness := (true, "cf5f88859fc65df3b9a3c73e44174c1e4454631e3ea11393b0789fd3be752ff6"), looks := false }, kinds := [], alts := [], laidByText := true, laidKinds := [.data, .data, .data, .data, .pinned], laidTests := true, laidLooks := .later }
def FnMuseumsCardSaid : Prop := Claim7.holds Tryz.pinned (.plain (OpenSpec.ofChange fnMuseumsSpec)) fnMuseumsCard

/-- THE TIED CARD OF 'laws.FnScenarios'. -/
def fnScenariosCard : Claim7 := { stood := { row := fnScenariosRow, standIns := [], harness := (true, "cf5f88859fc65df3b9a3c73e44174c1e4454631e3ea11393b0789fd3be752ff6"), looks := false }, kinds := [], alts := [], laidByText := true, laidKinds := [.data, .data, .data, .data, .pinned], laidTests := true, laidLooks := .later }
def FnScenariosCardSaid : Prop := Claim7.holds Tryz.pinned (.plain (OpenSpec.ofChange fnScenariosSpec)) fnScenariosCard

/-- THE TIED CARD OF 'laws.FnReplays'. -/
def fnReplaysCard : Claim7 := { stood := { row := fnReplaysRow, standIns := [], harness := (true, "cf5f88859fc65df3b9a3c73e44174c1e4454631e3ea11393b0789fd3be752ff6"), looks := false }, kinds := [], alts := [], laidByText := true, laidKinds := [.data, .data, .data, .data, .pinned], laidTests := true, laidLooks := .later }
def FnReplaysCardSaid : Prop := Claim7.holds Tryz.pinned (.plain (OpenSpec.ofChange fnReplaysSpec)) fnReplaysCard

/-- THE TIED CARD OF 'laws.FnScripts'. -/
def fnScriptsCard : Claim7 := { stood := { row := fnScriptsRow, standIns := [], harness := (true, "cf5f88859fc65df3b9a3c73e44174c1e4454631e3ea11393b0789fd3be752ff6"), looks := false }, kinds := [], alts := [], laidByText := true, laidKinds := [.data, .data, .data, .data, .pinned], laidTests := true, laidLooks := .later }
def FnScriptsCardSaid : Prop := Claim7.holds Tryz.pinned (.plain (OpenSpec.ofChange fnScriptsSpec)) fnScriptsCard

/-- THE TIED CARD OF 'laws.FnExactRunScript'. -/
def fnExactRunScriptCard : Claim7 := { stood := { row := fnExactRunScriptRow, standIns := [], harness := (true, "cf5f88859fc65df3b9a3c73e44174c1e4454631e3ea11393b0789fd3be752ff6"), looks := false }, kinds := [], alts := [], laidByText := true, laidKinds := [.data, .data, .data, .data, .pinned], laidTests := true, laidLooks := .later }
def FnExactRunScriptCardSaid : Prop := Claim7.holds Tryz.pinned (.plain (OpenSpec.ofChange fnExactRunScriptSpec)) fnExactRunScriptCard

/-- THE SECOND FORM's CARD OF 'laws.FnTop'. -/
def fnTopUptoCard : Claim7 := { stood := { row := fnTopUptoRow, standIns := [], harness := (true, "cf5f88859fc65df3b9a3c73e44174c1e4454631e3ea11393b0789fd3be752ff6"), looks := false }, kinds := [], alts := [], laidByText := true, laidKinds := [.data, .data, .data, .data, .pinned], laidTests := true, laidLooks := .later }
def FnTopUptoCardSaid : Prop := Claim7.holds Tryz.pinned (.plain (OpenSpec.upto fnTopSpec)) fnTopUptoCard

/-- THE SECOND FORM's CARD OF 'laws.FnMuseums'. -/
def fnMuseumsUptoCard : Claim7 := { stood := { row := fnMuseumsUptoRow, standIns := [], harness := (true, "cf5f88859fc65df3b9a3c73e44174c1e4454631e3ea11393b0789fd3be752ff6"), looks := false }, kinds := [], alts := [], laidByText := true, laidKinds := [.data, .data, .data, .data, .pinned], laidTests := true, laidLooks := .later }
def FnMuseumsUptoCardSaid : Prop := Claim7.holds Tryz.pinned (.plain (OpenSpec.upto fnMuseumsSpec)) fnMuseumsUptoCard

/-- THE SECOND FORM's CARD OF 'laws.FnScenarios'. -/
def fnScenariosUptoCard : Claim7 := { stood := { row := fnScenariosUptoRow, standIns := [], harness := (true, "cf5f88859fc65df3b9a3c73e44174c1e4454631e3ea11393b0789fd3be752ff6"), looks := false }, kinds := [], alts := [], laidByText := true, laidKinds := [.data, .data, .data, .data, .pinned], laidTests := true, laidLooks := .later }
def FnScenariosUptoCardSaid : Prop := Claim7.holds Tryz.pinned (.plain (OpenSpec.upto fnScenariosSpec)) fnScenariosUptoCard

/-- THE SECOND FORM's CARD OF 'laws.FnReplays'. -/
def fnReplaysUptoCard : Claim7 := { stood := { row := fnReplaysUptoRow, standIns := [], harness := (true, "cf5f88859fc65df3b9a3c73e44174c1e4454631e3ea11393b0789fd3be752ff6"), looks := false }, kinds := [], alts := [], laidByText := true, laidKinds := [.data, .data, .data, .data, .pinned], laidTests := true, laidLooks := .later }
def FnReplaysUptoCardSaid : Prop := Claim7.holds Tryz.pinned (.plain (OpenSpec.upto fnReplaysSpec)) fnReplaysUptoCard

/-- THE SECOND FORM's CARD OF 'laws.FnScripts'. -/
def fnScriptsUptoCard : Claim7 := { stood := { row := fnScriptsUptoRow, standIns := [], harness := (true, "cf5f88859fc65df3b9a3c73e44174c1e4454631e3ea11393b0789fd3be752ff6"), looks := false }, kinds := [], alts := [], laidByText := true, laidKinds := [.data, .data, .data, .data, .pinned], laidTests := true, laidLooks := .later }
def FnScriptsUptoCardSaid : Prop := Claim7.holds Tryz.pinned (.plain (OpenSpec.upto fnScriptsSpec)) fnScriptsUptoCard

/-- THE SECOND FORM's CARD OF 'laws.FnExactRunScript'. -/
def fnExactRunScriptUptoCard : Claim7 := { stood := { row := fnExactRunScriptUptoRow, standIns := [], harness := (true, "cf5f88859fc65df3b9a3c73e44174c1e4454631e3ea11393b0789fd3be752ff6"), looks := false }, kinds := [], alts := [], laidByText := true, laidKinds := [.data, .data, .data, .data, .pinned], laidTests := true, laidLooks := .later }
def FnExactRunScriptUptoCardSaid : Prop := Claim7.holds Tryz.pinned (.plain (OpenSpec.upto fnExactRunScriptSpec)) fnExactRunScriptUptoCard
end Rows
end Go.Proofs.YtfmifllcbbfpoaaGreatDoor
