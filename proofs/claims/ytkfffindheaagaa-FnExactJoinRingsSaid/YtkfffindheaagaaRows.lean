/-
  No cell of these rows narrows 'for every input' (looked for: loops, veiled, ifaces, maps, wideKeys, modest, calm, conditions, laid).
  DERIVED. THE GIVEN ROWS OF THIS SEAT. 12 by the template 'for every input the law returns true; each argument reads behind the call as it read before'; 0 by the template 'total and deterministic' (their statements: YtkfffindheaagaaTotals.lean).
  GIVEN WITH THE SEED: the statements are not yours to turn. If you find one false, say at which input.
  Laid BY PROGRAM, IN A SANDBOX (cutbox-rows.mjs): the forced cells as the released guide's own fill.sh prints them over the translation 312604d1dc97278b… (all of the seat's roots in one cut). By AI agents, Wed Nov 11 2026. No macro, syntax, notation, axiom, sorry.
-/
import Derived.Test.YtkfffindheaagaaChecked
import GoSem.Claim
import GoSem.ClaimJoined
import GoSem.ClaimMapViews
import Derived.JoinedTies
import Derived.KernelRfl
namespace Go.Proofs.Ytkfffindheaagaa
/- THE CELL 'sum', in the pinned program and in every row, IS THE sha256 OF THE DUMP (.gsa) THAT YtkfffindheaagaaProg.lean LOADS. Nothing in Lean hashes anything: it is a label: what it is worth is what the hold of that sum in a sandbox is worth. -/
noncomputable def Try.pinned : Pinned := { name := "ytkfffindheaagaa", sum := "312604d1dc97278b87787b2c16a45e81fe634ee588b3df97c2dccb1d89457af9", checked := Try.checked }
namespace Rows
def none {H : Type} : Left H := { results := [], args := [] }

/-- 'laws.FnExactShiftOk': WHATEVER THE INPUT: true; the input reads as it did. -/
def fnExactShiftOkSpec : ChangeSpec := { name := "fnExactShiftOk", fn := fun _ => fun
  | [d] => { results := [.lit (.bool true)], args := [d] }
  | _ => none }
def fnExactShiftOkRow : OpenClaim := { program := "ytkfffindheaagaa", sum := "312604d1dc97278b87787b2c16a45e81fe634ee588b3df97c2dccb1d89457af9", func := "loop.example/g00991/laws.FnExactShiftOk", spec := "fnExactShiftOk", apart := false }
def FnExactShiftOkSaid : Prop := fnExactShiftOkRow.holds Try.pinned (OpenSpec.ofChange fnExactShiftOkSpec)

/-- ITS FALSE NEIGHBOUR: 'it returns false'. Refute it at one input. -/
def fnExactShiftOkWrong : ChangeSpec := { name := "fnExactShiftOk", fn := fun _ => fun
  | [d] => { results := [.lit (.bool false)], args := [d] }
  | _ => none }
def FnExactShiftOkWrongFalsely : Prop := fnExactShiftOkRow.holds Try.pinned (OpenSpec.ofChange fnExactShiftOkWrong)

/-- 'laws.FnExactLoanOk': WHATEVER THE INPUT: true; the input reads as it did. -/
def fnExactLoanOkSpec : ChangeSpec := { name := "fnExactLoanOk", fn := fun _ => fun
  | [d] => { results := [.lit (.bool true)], args := [d] }
  | _ => none }
def fnExactLoanOkRow : OpenClaim := { program := "ytkfffindheaagaa", sum := "312604d1dc97278b87787b2c16a45e81fe634ee588b3df97c2dccb1d89457af9", func := "loop.example/g00991/laws.FnExactLoanOk", spec := "fnExactLoanOk", apart := false }
def FnExactLoanOkSaid : Prop := fnExactLoanOkRow.holds Try.pinned (OpenSpec.ofChange fnExactLoanOkSpec)

/-- ITS FALSE NEIGHBOUR: 'it returns false'. Refute it at one input. -/
def fnExactLoanOkWrong : ChangeSpec := { name := "fnExactLoanOk", fn := fun _ => fun
  | [d] => { results := [.lit (.bool false)], args := [d] }
  | _ => none }
def FnExactLoanOkWrongFalsely : Prop := fnExactLoanOkRow.holds Try.pinned (OpenSpec.ofChange fnExactLoanOkWrong)

/-- 'laws.FnExactStricter': WHATEVER THE INPUT: true; the input reads as it did. -/
def fnExactStricterSpec : ChangeSpec := { name := "fnExactStricter", fn := fun _ => fun
  | [d1, d2] => { results := [.lit (.bool true)], args := [d1, d2] }
  | _ => none }
def fnExactStricterRow : OpenClaim := { program := "ytkfffindheaagaa", sum := "312604d1dc97278b87787b2c16a45e81fe634ee588b3df97c2dccb1d89457af9", func := "loop.example/g00991/laws.FnExactStricter", spec := "fnExactStricter", apart := false }
def FnExactStricterSaid : Prop := fnExactStricterRow.holds Try.pinned (OpenSpec.ofChange fnExactStricterSpec)

/-- ITS FALSE NEIGHBOUR: 'it returns false'. Refute it at one input. -/
def fnExactStricterWrong : ChangeSpec := { name := "fnExactStricter", fn := fun _ => fun
  | [d1, d2] => { results := [.lit (.bool false)], args := [d1, d2] }
  | _ => none }
def FnExactStricterWrongFalsely : Prop := fnExactStricterRow.holds Try.pinned (OpenSpec.ofChange fnExactStricterWrong)

/-- 'laws.FnExactJoinRings': WHATEVER THE INPUT: true; the input reads as it did. -/
def fnExactJoinRingsSpec : ChangeSpec := { name := "fnExactJoinRings", fn := fun _ => fun
  | [d] => { results := [.lit (.bool true)], args := [d] }
  | _ => none }
def fnExactJoinRingsRow : OpenClaim := { program := "ytkfffindheaagaa", sum := "312604d1dc97278b87787b2c16a45e81fe634ee588b3df97c2dccb1d89457af9", func := "loop.example/g00991/laws.FnExactJoinRings", spec := "fnExactJoinRings", apart := false }
def FnExactJoinRingsSaid : Prop := fnExactJoinRingsRow.holds Try.pinned (OpenSpec.ofChange fnExactJoinRingsSpec)

/-- ITS FALSE NEIGHBOUR: 'it returns false'. Refute it at one input. -/
def fnExactJoinRingsWrong : ChangeSpec := { name := "fnExactJoinRings", fn := fun _ => fun
  | [d] => { results := [.lit (.bool false)], args := [d] }
  | _ => none }
def FnExactJoinRingsWrongFalsely : Prop := fnExactJoinRingsRow.holds Try.pinned (OpenSpec.ofChange fnExactJoinRingsWrong)

/-- 'laws.FnExactActOk': WHATEVER THE INPUT: true; the input reads as it did. -/
def fnExactActOkSpec : ChangeSpec := { name := "fnExactActOk", fn := fun _ => fun
  | [d] => { results := [.lit (.bool true)], args := [d] }
  | _ => none }
def fnExactActOkRow : OpenClaim := { program := "ytkfffindheaagaa", sum := "312604d1dc97278b87787b2c16a45e81fe634ee588b3df97c2dccb1d89457af9", func := "loop.example/g00991/laws.FnExactActOk", spec := "fnExactActOk", apart := false }
def FnExactActOkSaid : Prop := fnExactActOkRow.holds Try.pinned (OpenSpec.ofChange fnExactActOkSpec)

/-- ITS FALSE NEIGHBOUR: 'it returns false'. Refute it at one input. -/
def fnExactActOkWrong : ChangeSpec := { name := "fnExactActOk", fn := fun _ => fun
  | [d] => { results := [.lit (.bool false)], args := [d] }
  | _ => none }
def FnExactActOkWrongFalsely : Prop := fnExactActOkRow.holds Try.pinned (OpenSpec.ofChange fnExactActOkWrong)

/-- 'laws.FnExactJoinLoans': WHATEVER THE INPUT: true; the input reads as it did. -/
def fnExactJoinLoansSpec : ChangeSpec := { name := "fnExactJoinLoans", fn := fun _ => fun
  | [d1, d2] => { results := [.lit (.bool true)], args := [d1, d2] }
  | _ => none }
def fnExactJoinLoansRow : OpenClaim := { program := "ytkfffindheaagaa", sum := "312604d1dc97278b87787b2c16a45e81fe634ee588b3df97c2dccb1d89457af9", func := "loop.example/g00991/laws.FnExactJoinLoans", spec := "fnExactJoinLoans", apart := false }
def FnExactJoinLoansSaid : Prop := fnExactJoinLoansRow.holds Try.pinned (OpenSpec.ofChange fnExactJoinLoansSpec)

/-- ITS FALSE NEIGHBOUR: 'it returns false'. Refute it at one input. -/
def fnExactJoinLoansWrong : ChangeSpec := { name := "fnExactJoinLoans", fn := fun _ => fun
  | [d1, d2] => { results := [.lit (.bool false)], args := [d1, d2] }
  | _ => none }
def FnExactJoinLoansWrongFalsely : Prop := fnExactJoinLoansRow.holds Try.pinned (OpenSpec.ofChange fnExactJoinLoansWrong)

/-- 'laws.FnExactBreaches': WHATEVER THE INPUT: true; the input reads as it did. -/
def fnExactBreachesSpec : ChangeSpec := { name := "fnExactBreaches", fn := fun _ => fun
  | [d1, d2] => { results := [.lit (.bool true)], args := [d1, d2] }
  | _ => none }
def fnExactBreachesRow : OpenClaim := { program := "ytkfffindheaagaa", sum := "312604d1dc97278b87787b2c16a45e81fe634ee588b3df97c2dccb1d89457af9", func := "loop.example/g00991/laws.FnExactBreaches", spec := "fnExactBreaches", apart := false }
def FnExactBreachesSaid : Prop := fnExactBreachesRow.holds Try.pinned (OpenSpec.ofChange fnExactBreachesSpec)

/-- ITS FALSE NEIGHBOUR: 'it returns false'. Refute it at one input. -/
def fnExactBreachesWrong : ChangeSpec := { name := "fnExactBreaches", fn := fun _ => fun
  | [d1, d2] => { results := [.lit (.bool false)], args := [d1, d2] }
  | _ => none }
def FnExactBreachesWrongFalsely : Prop := fnExactBreachesRow.holds Try.pinned (OpenSpec.ofChange fnExactBreachesWrong)

/-- 'laws.FnExactLastSeen': WHATEVER THE INPUT: true; the input reads as it did. -/
def fnExactLastSeenSpec : ChangeSpec := { name := "fnExactLastSeen", fn := fun _ => fun
  | [d1, d2] => { results := [.lit (.bool true)], args := [d1, d2] }
  | _ => none }
def fnExactLastSeenRow : OpenClaim := { program := "ytkfffindheaagaa", sum := "312604d1dc97278b87787b2c16a45e81fe634ee588b3df97c2dccb1d89457af9", func := "loop.example/g00991/laws.FnExactLastSeen", spec := "fnExactLastSeen", apart := false }
def FnExactLastSeenSaid : Prop := fnExactLastSeenRow.holds Try.pinned (OpenSpec.ofChange fnExactLastSeenSpec)

/-- ITS FALSE NEIGHBOUR: 'it returns false'. Refute it at one input. -/
def fnExactLastSeenWrong : ChangeSpec := { name := "fnExactLastSeen", fn := fun _ => fun
  | [d1, d2] => { results := [.lit (.bool false)], args := [d1, d2] }
  | _ => none }
def FnExactLastSeenWrongFalsely : Prop := fnExactLastSeenRow.holds Try.pinned (OpenSpec.ofChange fnExactLastSeenWrong)

/-- 'laws.FnExactOnDuty': WHATEVER THE INPUT: true; the input reads as it did. -/
def fnExactOnDutySpec : ChangeSpec := { name := "fnExactOnDuty", fn := fun _ => fun
  | [d1, d2] => { results := [.lit (.bool true)], args := [d1, d2] }
  | _ => none }
def fnExactOnDutyRow : OpenClaim := { program := "ytkfffindheaagaa", sum := "312604d1dc97278b87787b2c16a45e81fe634ee588b3df97c2dccb1d89457af9", func := "loop.example/g00991/laws.FnExactOnDuty", spec := "fnExactOnDuty", apart := false }
def FnExactOnDutySaid : Prop := fnExactOnDutyRow.holds Try.pinned (OpenSpec.ofChange fnExactOnDutySpec)

/-- ITS FALSE NEIGHBOUR: 'it returns false'. Refute it at one input. -/
def fnExactOnDutyWrong : ChangeSpec := { name := "fnExactOnDuty", fn := fun _ => fun
  | [d1, d2] => { results := [.lit (.bool false)], args := [d1, d2] }
  | _ => none }
def FnExactOnDutyWrongFalsely : Prop := fnExactOnDutyRow.holds Try.pinned (OpenSpec.ofChange fnExactOnDutyWrong)

/-- 'laws.FnExactFirstMissed': WHATEVER THE INPUT: true; the input reads as it did. -/
def fnExactFirstMissedSpec : ChangeSpec := { name := "fnExactFirstMissed", fn := fun _ => fun
  | [d1, d2] => { results := [.lit (.bool true)], args := [d1, d2] }
  | _ => none }
def fnExactFirstMissedRow : OpenClaim := { program := "ytkfffindheaagaa", sum := "312604d1dc97278b87787b2c16a45e81fe634ee588b3df97c2dccb1d89457af9", func := "loop.example/g00991/laws.FnExactFirstMissed", spec := "fnExactFirstMissed", apart := false }
def FnExactFirstMissedSaid : Prop := fnExactFirstMissedRow.holds Try.pinned (OpenSpec.ofChange fnExactFirstMissedSpec)

/-- ITS FALSE NEIGHBOUR: 'it returns false'. Refute it at one input. -/
def fnExactFirstMissedWrong : ChangeSpec := { name := "fnExactFirstMissed", fn := fun _ => fun
  | [d1, d2] => { results := [.lit (.bool false)], args := [d1, d2] }
  | _ => none }
def FnExactFirstMissedWrongFalsely : Prop := fnExactFirstMissedRow.holds Try.pinned (OpenSpec.ofChange fnExactFirstMissedWrong)

/-- 'laws.FnExactIsMissing': WHATEVER THE INPUT: true; the input reads as it did. -/
def fnExactIsMissingSpec : ChangeSpec := { name := "fnExactIsMissing", fn := fun _ => fun
  | [d1, d2] => { results := [.lit (.bool true)], args := [d1, d2] }
  | _ => none }
def fnExactIsMissingRow : OpenClaim := { program := "ytkfffindheaagaa", sum := "312604d1dc97278b87787b2c16a45e81fe634ee588b3df97c2dccb1d89457af9", func := "loop.example/g00991/laws.FnExactIsMissing", spec := "fnExactIsMissing", apart := false }
def FnExactIsMissingSaid : Prop := fnExactIsMissingRow.holds Try.pinned (OpenSpec.ofChange fnExactIsMissingSpec)

/-- ITS FALSE NEIGHBOUR: 'it returns false'. Refute it at one input. -/
def fnExactIsMissingWrong : ChangeSpec := { name := "fnExactIsMissing", fn := fun _ => fun
  | [d1, d2] => { results := [.lit (.bool false)], args := [d1, d2] }
  | _ => none }
def FnExactIsMissingWrongFalsely : Prop := fnExactIsMissingRow.holds Try.pinned (OpenSpec.ofChange fnExactIsMissingWrong)

/-- 'laws.FnExactShiftsOk': WHATEVER THE INPUT: true; the input reads as it did. -/
def fnExactShiftsOkSpec : ChangeSpec := { name := "fnExactShiftsOk", fn := fun _ => fun
  | [d1, d2] => { results := [.lit (.bool true)], args := [d1, d2] }
  | _ => none }
def fnExactShiftsOkRow : OpenClaim := { program := "ytkfffindheaagaa", sum := "312604d1dc97278b87787b2c16a45e81fe634ee588b3df97c2dccb1d89457af9", func := "loop.example/g00991/laws.FnExactShiftsOk", spec := "fnExactShiftsOk", apart := false }
def FnExactShiftsOkSaid : Prop := fnExactShiftsOkRow.holds Try.pinned (OpenSpec.ofChange fnExactShiftsOkSpec)

/-- ITS FALSE NEIGHBOUR: 'it returns false'. Refute it at one input. -/
def fnExactShiftsOkWrong : ChangeSpec := { name := "fnExactShiftsOk", fn := fun _ => fun
  | [d1, d2] => { results := [.lit (.bool false)], args := [d1, d2] }
  | _ => none }
def FnExactShiftsOkWrongFalsely : Prop := fnExactShiftsOkRow.holds Try.pinned (OpenSpec.ofChange fnExactShiftsOkWrong)

/- THE SECOND FORM. 'bulk': how many values and letters a reading holds, each counted each time it is reached (what is shared counts as often as it is met; a slice's spare places count too). A statement '..UptoSaid' is the law's where the arguments, and the package variables that the reading takes, are together of bulk at most 1048576: NARROWER than '..Said'. Prove '..Said' where nothing that the law and all that it calls make is longer than what came in: it says more and counts as full. Else prove '..UptoSaid'. A law counts once. -/
mutual
def uptoBulk {H : Type} : DataW H → Nat
  | .lit (.string bytes) => bytes.length + 1
  | .lit _ => 1
  | .nil => 1
  | .ptr d => uptoBulk d + 1
  | .slice elems spare => uptoBulkAll elems + uptoBulkAll spare + 1
  | .agg parts => uptoBulkAll parts + 1
  | .iface _ d => uptoBulk d + 1
  | .map entries => uptoBulkEntries entries + 1
  | .held _ => 1
def uptoBulkAll {H : Type} : List (DataW H) → Nat
  | [] => 0
  | d :: r => uptoBulk d + uptoBulkAll r
def uptoBulkEntries {H : Type} : List (Lit × DataW H) → Nat
  | [] => 0
  | x :: r => uptoBulkEntry x + uptoBulkEntries r
def uptoBulkEntry {H : Type} : Lit × DataW H → Nat
  | (.string bytes, d) => bytes.length + uptoBulk d + 1
  | (_, d) => uptoBulk d + 1
 end
def uptoSmall : (H : Type) → List (DataW H) → Bool := fun _ ds => decide (uptoBulkAll ds ≤ 1048576)
def OpenSpec.upto (s : _root_.Go.ChangeSpec) : _root_.Go.OpenSpec := { _root_.Go.OpenSpec.ofChange s with cond := some uptoSmall }

/-- 'laws.FnExactShiftOk', WHERE WHAT IT READS IS OF BULK AT MOST 1048576: true; the input reads as it did. -/
def fnExactShiftOkUptoRow : OpenClaim := { program := "ytkfffindheaagaa", sum := "312604d1dc97278b87787b2c16a45e81fe634ee588b3df97c2dccb1d89457af9", func := "loop.example/g00991/laws.FnExactShiftOk", spec := "fnExactShiftOk", apart := false, narrowed := true }
def FnExactShiftOkUptoSaid : Prop := fnExactShiftOkUptoRow.holds Try.pinned (OpenSpec.upto fnExactShiftOkSpec)

/-- 'laws.FnExactLoanOk', WHERE WHAT IT READS IS OF BULK AT MOST 1048576: true; the input reads as it did. -/
def fnExactLoanOkUptoRow : OpenClaim := { program := "ytkfffindheaagaa", sum := "312604d1dc97278b87787b2c16a45e81fe634ee588b3df97c2dccb1d89457af9", func := "loop.example/g00991/laws.FnExactLoanOk", spec := "fnExactLoanOk", apart := false, narrowed := true }
def FnExactLoanOkUptoSaid : Prop := fnExactLoanOkUptoRow.holds Try.pinned (OpenSpec.upto fnExactLoanOkSpec)

/-- 'laws.FnExactStricter', WHERE WHAT IT READS IS OF BULK AT MOST 1048576: true; the input reads as it did. -/
def fnExactStricterUptoRow : OpenClaim := { program := "ytkfffindheaagaa", sum := "312604d1dc97278b87787b2c16a45e81fe634ee588b3df97c2dccb1d89457af9", func := "loop.example/g00991/laws.FnExactStricter", spec := "fnExactStricter", apart := false, narrowed := true }
def FnExactStricterUptoSaid : Prop := fnExactStricterUptoRow.holds Try.pinned (OpenSpec.upto fnExactStricterSpec)

/-- 'laws.FnExactJoinRings', WHERE WHAT IT READS IS OF BULK AT MOST 1048576: true; the input reads as it did. -/
def fnExactJoinRingsUptoRow : OpenClaim := { program := "ytkfffindheaagaa", sum := "312604d1dc97278b87787b2c16a45e81fe634ee588b3df97c2dccb1d89457af9", func := "loop.example/g00991/laws.FnExactJoinRings", spec := "fnExactJoinRings", apart := false, narrowed := true }
def FnExactJoinRingsUptoSaid : Prop := fnExactJoinRingsUptoRow.holds Try.pinned (OpenSpec.upto fnExactJoinRingsSpec)

/-- 'laws.FnExactActOk', WHERE WHAT IT READS IS OF BULK AT MOST 1048576: true; the input reads as it did. -/
def fnExactActOkUptoRow : OpenClaim := { program := "ytkfffindheaagaa", sum := "312604d1dc97278b87787b2c16a45e81fe634ee588b3df97c2dccb1d89457af9", func := "loop.example/g00991/laws.FnExactActOk", spec := "fnExactActOk", apart := false, narrowed := true }
def FnExactActOkUptoSaid : Prop := fnExactActOkUptoRow.holds Try.pinned (OpenSpec.upto fnExactActOkSpec)

/-- 'laws.FnExactJoinLoans', WHERE WHAT IT READS IS OF BULK AT MOST 1048576: true; the input reads as it did. -/
def fnExactJoinLoansUptoRow : OpenClaim := { program := "ytkfffindheaagaa", sum := "312604d1dc97278b87787b2c16a45e81fe634ee588b3df97c2dccb1d89457af9", func := "loop.example/g00991/laws.FnExactJoinLoans", spec := "fnExactJoinLoans", apart := false, narrowed := true }
def FnExactJoinLoansUptoSaid : Prop := fnExactJoinLoansUptoRow.holds Try.pinned (OpenSpec.upto fnExactJoinLoansSpec)

/-- 'laws.FnExactBreaches', WHERE WHAT IT READS IS OF BULK AT MOST 1048576: true; the input reads as it did. -/
def fnExactBreachesUptoRow : OpenClaim := { program := "ytkfffindheaagaa", sum := "312604d1dc97278b87787b2c16a45e81fe634ee588b3df97c2dccb1d89457af9", func := "loop.example/g00991/laws.FnExactBreaches", spec := "fnExactBreaches", apart := false, narrowed := true }
def FnExactBreachesUptoSaid : Prop := fnExactBreachesUptoRow.holds Try.pinned (OpenSpec.upto fnExactBreachesSpec)

/-- 'laws.FnExactLastSeen', WHERE WHAT IT READS IS OF BULK AT MOST 1048576: true; the input reads as it did. -/
def fnExactLastSeenUptoRow : OpenClaim := { program := "ytkfffindheaagaa", sum := "312604d1dc97278b87787b2c16a45e81fe634ee588b3df97c2dccb1d89457af9", func := "loop.example/g00991/laws.FnExactLastSeen", spec := "fnExactLastSeen", apart := false, narrowed := true }
def FnExactLastSeenUptoSaid : Prop := fnExactLastSeenUptoRow.holds Try.pinned (OpenSpec.upto fnExactLastSeenSpec)

/-- 'laws.FnExactOnDuty', WHERE WHAT IT READS IS OF BULK AT MOST 1048576: true; the input reads as it did. -/
def fnExactOnDutyUptoRow : OpenClaim := { program := "ytkfffindheaagaa", sum := "312604d1dc97278b87787b2c16a45e81fe634ee588b3df97c2dccb1d89457af9", func := "loop.example/g00991/laws.FnExactOnDuty", spec := "fnExactOnDuty", apart := false, narrowed := true }
def FnExactOnDutyUptoSaid : Prop := fnExactOnDutyUptoRow.holds Try.pinned (OpenSpec.upto fnExactOnDutySpec)

/-- 'laws.FnExactFirstMissed', WHERE WHAT IT READS IS OF BULK AT MOST 1048576: true; the input reads as it did. -/
def fnExactFirstMissedUptoRow : OpenClaim := { program := "ytkfffindheaagaa", sum := "312604d1dc97278b87787b2c16a45e81fe634ee588b3df97c2dccb1d89457af9", func := "loop.example/g00991/laws.FnExactFirstMissed", spec := "fnExactFirstMissed", apart := false, narrowed := true }
def FnExactFirstMissedUptoSaid : Prop := fnExactFirstMissedUptoRow.holds Try.pinned (OpenSpec.upto fnExactFirstMissedSpec)

/-- 'laws.FnExactIsMissing', WHERE WHAT IT READS IS OF BULK AT MOST 1048576: true; the input reads as it did. -/
def fnExactIsMissingUptoRow : OpenClaim := { program := "ytkfffindheaagaa", sum := "312604d1dc97278b87787b2c16a45e81fe634ee588b3df97c2dccb1d89457af9", func := "loop.example/g00991/laws.FnExactIsMissing", spec := "fnExactIsMissing", apart := false, narrowed := true }
def FnExactIsMissingUptoSaid : Prop := fnExactIsMissingUptoRow.holds Try.pinned (OpenSpec.upto fnExactIsMissingSpec)

/-- 'laws.FnExactShiftsOk', WHERE WHAT IT READS IS OF BULK AT MOST 1048576: true; the input reads as it did. -/
def fnExactShiftsOkUptoRow : OpenClaim := { program := "ytkfffindheaagaa", sum := "312604d1dc97278b87787b2c16a45e81fe634ee588b3df97c2dccb1d89457af9", func := "loop.example/g00991/laws.FnExactShiftsOk", spec := "fnExactShiftsOk", apart := false, narrowed := true }
def FnExactShiftsOkUptoSaid : Prop := fnExactShiftsOkUptoRow.holds Try.pinned (OpenSpec.upto fnExactShiftsOkSpec)

end Rows
end Go.Proofs.Ytkfffindheaagaa
