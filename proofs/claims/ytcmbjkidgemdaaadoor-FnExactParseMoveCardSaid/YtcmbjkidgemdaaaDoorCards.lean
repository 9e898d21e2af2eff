/-
  DERIVED. GIVEN WITH THE SEED: THE CARDS: each row of YtcmbjkidgemdaaaDoorRows.lean that lists a variable, with what it lists TIED to the program's text (the seventh form; the later family's looks); each row that meets fmt, with fmt's text TOLD by the authors' own Lean function (tested against real Go, not proved from fmt's source: count such statements apart). THE CARD IS WHAT COUNTS. Prove the row's statement (the work); the ties are given (YtcmbjkidgemdaaaDoorTie.lean); close each card by the builder's one call (the guide's Derived/Test/ToyasCard.lean, 'card_holds'). Laid BY PROGRAM, IN A SANDBOX (cutbox-door.mjs). By AI agents, Wed Nov 11 2026. No macro, syntax, notation, axiom, sorry.
-/
import Derived.Test.YtcmbjkidgemdaaaDoorRows
import GoSem.ClaimSeven
namespace Go.Proofs.YtcmbjkidgemdaaaDoor
namespace Rows

/-- THE TIED CARD OF 'laws.FnExactMoveText'. -/
def fnExactMoveTextCard : Claim7 := { stood := { row := fnExactMoveTextRow, standIns := [], harness := (true, "b1888b5aa050ac50dcf6d42c5f12f39483f54c4537e35f39793bf8c0960b67ab"), looks := false }, kinds := [], alts := [], laidByText := true, laidKinds := [.data, .data, .data], laidTests := true, laidLooks := .later }
def FnExactMoveTextCardSaid : Prop := Claim7.holds Tryd.pinned (.plain (OpenSpec.ofChange fnExactMoveTextSpec)) fnExactMoveTextCard

/-- THE TIED CARD OF 'laws.FnExactFormatAct'. -/
def fnExactFormatActCard : Claim7 := { stood := { row := fnExactFormatActRow, standIns := [], harness := (true, "b1888b5aa050ac50dcf6d42c5f12f39483f54c4537e35f39793bf8c0960b67ab"), looks := false }, kinds := [], alts := [], laidByText := true, laidKinds := [.data, .data, .data], laidTests := true, laidLooks := .later }
def FnExactFormatActCardSaid : Prop := Claim7.holds Tryd.pinned (.plain (OpenSpec.ofChange fnExactFormatActSpec)) fnExactFormatActCard

/-- THE TIED CARD OF 'laws.FnExactScriptText'. -/
def fnExactScriptTextCard : Claim7 := { stood := { row := fnExactScriptTextRow, standIns := [], harness := (true, "b1888b5aa050ac50dcf6d42c5f12f39483f54c4537e35f39793bf8c0960b67ab"), looks := false }, kinds := [], alts := [], laidByText := true, laidKinds := [.data, .data, .data], laidTests := true, laidLooks := .later }
def FnExactScriptTextCardSaid : Prop := Claim7.holds Tryd.pinned (.plain (OpenSpec.ofChange fnExactScriptTextSpec)) fnExactScriptTextCard

/-- THE TIED CARD OF 'laws.FnExactParseAct'. -/
def fnExactParseActCard : Claim7 := { stood := { row := fnExactParseActRow, standIns := [], harness := (true, "b1888b5aa050ac50dcf6d42c5f12f39483f54c4537e35f39793bf8c0960b67ab"), looks := false }, kinds := [], alts := [], laidByText := true, laidKinds := [.data, .data, .data], laidTests := true, laidLooks := .later }
def FnExactParseActCardSaid : Prop := Claim7.holds Tryd.pinned (.plain (OpenSpec.ofChange fnExactParseActSpec)) fnExactParseActCard

/-- THE TIED CARD OF 'laws.FnExactParseMove'. -/
def fnExactParseMoveCard : Claim7 := { stood := { row := fnExactParseMoveRow, standIns := [], harness := (true, "b1888b5aa050ac50dcf6d42c5f12f39483f54c4537e35f39793bf8c0960b67ab"), looks := false }, kinds := [], alts := [], laidByText := true, laidKinds := [.data, .data, .data, .data, .pinned], laidTests := true, laidLooks := .later }
def FnExactParseMoveCardSaid : Prop := Claim7.holds Tryd.pinned (.plain (OpenSpec.ofChange fnExactParseMoveSpec)) fnExactParseMoveCard

/-- THE TIED CARD OF 'laws.FnActTexts'. -/
def fnActTextsCard : Claim7 := { stood := { row := fnActTextsRow, standIns := [], harness := (true, "b1888b5aa050ac50dcf6d42c5f12f39483f54c4537e35f39793bf8c0960b67ab"), looks := false }, kinds := [], alts := [], laidByText := true, laidKinds := [.data, .data, .data], laidTests := true, laidLooks := .later }
def FnActTextsCardSaid : Prop := Claim7.holds Tryd.pinned (.plain (OpenSpec.ofChange fnActTextsSpec)) fnActTextsCard

/-- THE TIED CARD OF 'laws.FnNights'. -/
def fnNightsCard : Claim7 := { stood := { row := fnNightsRow, standIns := [], harness := (true, "b1888b5aa050ac50dcf6d42c5f12f39483f54c4537e35f39793bf8c0960b67ab"), looks := false }, kinds := [], alts := [], laidByText := true, laidKinds := [.data, .data, .data, .data, .pinned], laidTests := true, laidLooks := .later }
def FnNightsCardSaid : Prop := Claim7.holds Tryd.pinned (.plain (OpenSpec.ofChange fnNightsSpec)) fnNightsCard

/-- THE SECOND FORM's CARD OF 'laws.FnExactMoveText'. -/
def fnExactMoveTextUptoCard : Claim7 := { stood := { row := fnExactMoveTextUptoRow, standIns := [], harness := (true, "b1888b5aa050ac50dcf6d42c5f12f39483f54c4537e35f39793bf8c0960b67ab"), looks := false }, kinds := [], alts := [], laidByText := true, laidKinds := [.data, .data, .data], laidTests := true, laidLooks := .later }
def FnExactMoveTextUptoCardSaid : Prop := Claim7.holds Tryd.pinned (.plain (OpenSpec.upto fnExactMoveTextSpec)) fnExactMoveTextUptoCard

/-- THE SECOND FORM's CARD OF 'laws.FnExactFormatAct'. -/
def fnExactFormatActUptoCard : Claim7 := { stood := { row := fnExactFormatActUptoRow, standIns := [], harness := (true, "b1888b5aa050ac50dcf6d42c5f12f39483f54c4537e35f39793bf8c0960b67ab"), looks := false }, kinds := [], alts := [], laidByText := true, laidKinds := [.data, .data, .data], laidTests := true, laidLooks := .later }
def FnExactFormatActUptoCardSaid : Prop := Claim7.holds Tryd.pinned (.plain (OpenSpec.upto fnExactFormatActSpec)) fnExactFormatActUptoCard

/-- THE SECOND FORM's CARD OF 'laws.FnExactScriptText'. -/
def fnExactScriptTextUptoCard : Claim7 := { stood := { row := fnExactScriptTextUptoRow, standIns := [], harness := (true, "b1888b5aa050ac50dcf6d42c5f12f39483f54c4537e35f39793bf8c0960b67ab"), looks := false }, kinds := [], alts := [], laidByText := true, laidKinds := [.data, .data, .data], laidTests := true, laidLooks := .later }
def FnExactScriptTextUptoCardSaid : Prop := Claim7.holds Tryd.pinned (.plain (OpenSpec.upto fnExactScriptTextSpec)) fnExactScriptTextUptoCard

/-- THE SECOND FORM's CARD OF 'laws.FnExactParseAct'. -/
def fnExactParseActUptoCard : Claim7 := { stood := { row := fnExactParseActUptoRow, standIns := [], harness := (true, "b1888b5aa050ac50dcf6d42c5f12f39483f54c4537e35f39793bf8c0960b67ab"), looks := false }, kinds := [], alts := [], laidByText := true, laidKinds := [.data, .data, .data], laidTests := true, laidLooks := .later }
def FnExactParseActUptoCardSaid : Prop := Claim7.holds Tryd.pinned (.plain (OpenSpec.upto fnExactParseActSpec)) fnExactParseActUptoCard

/-- THE SECOND FORM's CARD OF 'laws.FnExactParseMove'. -/
def fnExactParseMoveUptoCard : Claim7 := { stood := { row := fnExactParseMoveUptoRow, standIns := [], harness := (true, "b1888b5aa050ac50dcf6d42c5f12f39483f54c4537e35f39793bf8c0960b67ab"), looks := false }, kinds := [], alts := [], laidByText := true, laidKinds := [.data, .data, .data, .data, .pinned], laidTests := true, laidLooks := .later }
def FnExactParseMoveUptoCardSaid : Prop := Claim7.holds Tryd.pinned (.plain (OpenSpec.upto fnExactParseMoveSpec)) fnExactParseMoveUptoCard

/-- THE SECOND FORM's CARD OF 'laws.FnActTexts'. -/
def fnActTextsUptoCard : Claim7 := { stood := { row := fnActTextsUptoRow, standIns := [], harness := (true, "b1888b5aa050ac50dcf6d42c5f12f39483f54c4537e35f39793bf8c0960b67ab"), looks := false }, kinds := [], alts := [], laidByText := true, laidKinds := [.data, .data, .data], laidTests := true, laidLooks := .later }
def FnActTextsUptoCardSaid : Prop := Claim7.holds Tryd.pinned (.plain (OpenSpec.upto fnActTextsSpec)) fnActTextsUptoCard

/-- THE SECOND FORM's CARD OF 'laws.FnNights'. -/
def fnNightsUptoCard : Claim7 := { stood := { row := fnNightsUptoRow, standIns := [], harness := (true, "b1888b5aa050ac50dcf6d42c5f12f39483f54c4537e35f39793bf8c0960b67ab"), looks := false }, kinds := [], alts := [], laidByText := true, laidKinds := [.data, .data, .data, .data, .pinned], laidTests := true, laidLooks := .later }
def FnNightsUptoCardSaid : Prop := Claim7.holds Tryd.pinned (.plain (OpenSpec.upto fnNightsSpec)) fnNightsUptoCard
end Rows
end Go.Proofs.YtcmbjkidgemdaaaDoor
