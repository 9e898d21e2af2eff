/-
  DERIVED. GIVEN WITH THE SEED: THE CARDS: each row of YtkelmeemblmggaaDoorRows.lean that lists a variable, with what it lists TIED to the program's text (the seventh form; the later family's looks); each row that meets fmt, with fmt's text TOLD by the authors' own Lean function (tested against real Go, not proved from fmt's source: count such statements apart). THE CARD IS WHAT COUNTS. Prove the row's statement (the work); the ties are given (YtkelmeemblmggaaDoorTie.lean); close each card by the builder's one call (the guide's Derived/Test/ToyasCard.lean, 'card_holds'). Laid BY PROGRAM, IN A SANDBOX (cutbox-door.mjs). By AI agents, Wed Nov 11 2026. No macro, syntax, notation, axiom, sorry.
-/
import Derived.Test.YtkelmeemblmggaaDoorRows
import GoSem.ClaimSeven
namespace Go.Proofs.YtkelmeemblmggaaDoor
namespace Rows

/-- THE TIED CARD OF 'laws.FnExactFormatMuseum'. -/
def fnExactFormatMuseumCard : Claim7 := { stood := { row := fnExactFormatMuseumRow, standIns := [], harness := (true, "6195f01b4dd9a52d06120e7000ff8af782e80fa18cd85ed86f259f38406f6305"), looks := false }, kinds := [], alts := [], laidByText := true, laidKinds := [.data, .data, .data], laidTests := true, laidLooks := .later }
def FnExactFormatMuseumCardSaid : Prop := Claim7.holds Tryd.pinned (.plain (OpenSpec.ofChange fnExactFormatMuseumSpec)) fnExactFormatMuseumCard

/-- THE TIED CARD OF 'laws.FnSummaries'. -/
def fnSummariesCard : Claim7 := { stood := { row := fnSummariesRow, standIns := [], harness := (true, "6195f01b4dd9a52d06120e7000ff8af782e80fa18cd85ed86f259f38406f6305"), looks := false }, kinds := [], alts := [], laidByText := true, laidKinds := [.data, .data, .data], laidTests := true, laidLooks := .later }
def FnSummariesCardSaid : Prop := Claim7.holds Tryd.pinned (.plain (OpenSpec.ofChange fnSummariesSpec)) fnSummariesCard

/-- THE SECOND FORM's CARD OF 'laws.FnExactFormatMuseum'. -/
def fnExactFormatMuseumUptoCard : Claim7 := { stood := { row := fnExactFormatMuseumUptoRow, standIns := [], harness := (true, "6195f01b4dd9a52d06120e7000ff8af782e80fa18cd85ed86f259f38406f6305"), looks := false }, kinds := [], alts := [], laidByText := true, laidKinds := [.data, .data, .data], laidTests := true, laidLooks := .later }
def FnExactFormatMuseumUptoCardSaid : Prop := Claim7.holds Tryd.pinned (.plain (OpenSpec.upto fnExactFormatMuseumSpec)) fnExactFormatMuseumUptoCard

/-- THE SECOND FORM's CARD OF 'laws.FnSummaries'. -/
def fnSummariesUptoCard : Claim7 := { stood := { row := fnSummariesUptoRow, standIns := [], harness := (true, "6195f01b4dd9a52d06120e7000ff8af782e80fa18cd85ed86f259f38406f6305"), looks := false }, kinds := [], alts := [], laidByText := true, laidKinds := [.data, .data, .data], laidTests := true, laidLooks := .later }
def FnSummariesUptoCardSaid : Prop := Claim7.holds Tryd.pinned (.plain (OpenSpec.upto fnSummariesSpec)) fnSummariesUptoCard
end Rows
end Go.Proofs.YtkelmeemblmggaaDoor
