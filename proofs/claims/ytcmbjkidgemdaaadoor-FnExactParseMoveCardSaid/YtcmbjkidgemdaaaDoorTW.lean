/- A world in which the listed tables stand, written out; no condition. -/
import Derived.Test.YtcmbjkidgemdaaaDoorRows
import Derived.ProofKit
import Derived.LaidMore
import Derived.LaidOnce
namespace Go.Proofs.YtcmbjkidgemdaaaDoor
set_option linter.unusedSimpArgs false
set_option linter.unusedVariables false
open Go.ChangeShapes Go.WideShapes Go.ChangeAt Go.RowKit
/-- The cells of a table of numbers, or of rows of numbers. -/
def flatD : DataW Unit → List Value
  | .agg l => l.flatMap fun d => match d with
    | .lit (.int k n) => [.int k n]
    | .agg r => r.flatMap fun e => match e with
      | .lit (.int k n) => [.int k n]
      | _ => []
    | _ => []
  | _ => []
def putB (h : Array Obj) (g : Nat) (cs : List Value) : Array Obj :=
  match h[g]? with
  | some (.cells _ t fr) => h.setIfInBounds g (.cells cs.toArray t fr)
  | _ => h
def putAll (P : Program) (h : Array Obj) (l : List (String × DataW Unit)) : Array Obj :=
  l.foldl (fun h nd => match P.globalNamed nd.1 with
    | some g => putB h g (flatD nd.2)
    | none => h) h
noncomputable def laidW (P : Program) (os : Os) (l : List (String × DataW Unit)) : World :=
  { World.holding P os ⟨#[], #[], []⟩ with heap := putAll P (World.holding P os ⟨#[], #[], []⟩).heap l }
end Go.Proofs.YtcmbjkidgemdaaaDoor
