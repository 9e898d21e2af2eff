/-
  DERIVED. GIVEN WITH THE SEED: THE CARDS: each row of YtfhibjehnoibeaaDoorRows.lean that lists a variable, with what it lists TIED to the program's text (the seventh form; the later family's looks); each row that meets fmt, with fmt's text TOLD by the authors' own Lean function (tested against real Go, not proved from fmt's source: count such statements apart). THE CARD IS WHAT COUNTS. Prove the row's statement (the work); the ties are given (YtfhibjehnoibeaaDoorTie.lean); close each card by the builder's one call (the guide's Derived/Test/ToyasCard.lean, 'card_holds'). Laid BY PROGRAM, IN A SANDBOX (cutbox-door.mjs). By AI agents, Wed Nov 11 2026. No macro, syntax, notation, axiom, sorry.
-/
import Derived.Test.YtfhibjehnoibeaaDoorRows
import GoSem.ClaimSeven
namespace Go.Proofs.YtfhibjehnoibeaaDoor
namespace Rows

/-- THE TIED CARD OF 'laws.FnActTexts'. -/
def fnActTextsCard : Claim7 := { stood := { row := fnActTextsRow, standIns := [], harness := (true, "24a956c985de4898a6c558940c578e7678d3aa9de54029a343c05345bc214521"), looks := false }, kinds := [], alts := [], laidByText := true, laidKinds := [.data, .data, .data], laidTests := true, laidLooks := .later }
def FnActTextsCardSaid : Prop := Claim7.holds Tryd.pinned (.plain (OpenSpec.ofChange fnActTextsSpec)) fnActTextsCard

/-- THE TIED CARD OF 'laws.FnNights'. -/
def fnNightsCard : Claim7 := { stood := { row := fnNightsRow, standIns := [], harness := (true, "24a956c985de4898a6c558940c578e7678d3aa9de54029a343c05345bc214521"), looks := false }, kinds := [], alts := [], laidByText := true, laidKinds := [.data, .data, .data, .data, .pinned], laidTests := true, laidLooks := .later }
def FnNightsCardSaid : Prop := Claim7.holds Tryd.pinned (.plain (OpenSpec.ofChange fnNightsSpec)) fnNightsCard

/-- THE TIED CARD OF 'laws.FnSummaries'. -/
def fnSummariesCard : Claim7 := { stood := { row := fnSummariesRow, standIns := [], harness := (true, "24a956c985de4898a6c558940c578e7678d3aa9de54029a343c05345bc214521"), looks := false }, kinds := [], alts := [], laidByText := true, laidKinds := [.data, .data, .data], laidTests := true, laidLooks := .later }
def FnSummariesCardSaid : Prop := Claim7.holds Tryd.pinned (.plain (OpenSpec.ofChange fnSummariesSpec)) fnSummariesCard

/-- THE SECOND FORM's CARD OF 'laws.FnActTexts'. -/
def fnActTextsUptoCard : Claim7 := { stood := { row := fnActTextsUptoRow, standIns := [], harness := (true, "24a956c985de4898a6c558940c578e7678d3aa9de54029a343c05345bc214521"), looks := false }, kinds := [], alts := [], laidByText := true, laidKinds := [.data, .data, .data], laidTests := true, laidLooks := .later }
def FnActTextsUptoCardSaid : Prop := Claim7.holds Tryd.pinned (.plain (OpenSpec.upto fnActTextsSpec)) fnActTextsUptoCard

/-- THE SECOND FORM's CARD OF 'laws.FnNights'. -/
def fnNightsUptoCard : Claim7 := { stood := { row := fnNightsUptoRow, standIns := [], harness := (true, "24a956c985de4898a6c558940c578e7678d3aa9de54029a343c05345bc214521"), looks := false }, kinds := [], alts := [], laidByText := true, laidKinds := [.data, .data, .data, .data, .pinned], laidTests := true, laidLooks := .later }
def FnNightsUptoCardSaid : Prop := Claim7.holds Tryd.pinned (.plain (OpenSpec.upto fnNightsSpec)) fnNightsUptoCard

/-- THE SECOND FORM's CARD OF 'laws.FnSummaries'. -/
def fnSummariesUptoCard : Claim7 := { stood := { row := fnSummariesUptoRow, standIns := [], harness := (true, "24a956c985de4898a6c558940c578e7678d3aa9de54029a343c05345bc214521"), looks := false }, kinds := [], alts := [], laidByText := true, laidKinds := [.data, .data, .data], laidTests := true, laidLooks := .later }
def FnSummariesUptoCardSaid : Prop := Claim7.holds Tryd.pinned (.plain (OpenSpec.upto fnSummariesSpec)) fnSummariesUptoCard
end Rows
end Go.Proofs.YtfhibjehnoibeaaDoor
