/-
  No cell of these rows narrows 'for every input' (looked for: loops, veiled, ifaces, maps, wideKeys, modest, calm, conditions, laid).
  DERIVED. THE GIVEN ROWS OF THIS SEAT. 14 by the template 'for every input the law returns true; each argument reads behind the call as it read before'; 0 by the template 'total and deterministic' (their statements: YtlgmiifpdjalpaaTotals.lean).
  GIVEN WITH THE SEED: the statements are not yours to turn. If you find one false, say at which input.
  Laid BY PROGRAM, IN A SANDBOX (cutbox-rows.mjs): the forced cells as the released guide's own fill.sh prints them over the translation 7a7d5f38fe238c67… (all of the seat's roots in one cut). By AI agents, Wed Nov 11 2026. No macro, syntax, notation, axiom, sorry.
-/
import Derived.Test.YtlgmiifpdjalpaaChecked
import GoSem.Claim
import GoSem.ClaimJoined
import GoSem.ClaimMapViews
import Derived.JoinedTies
import Derived.KernelRfl
namespace Go.Proofs.Ytlgmiifpdjalpaa
/- THE CELL 'sum', in the pinned program and in every row, IS THE sha256 OF THE DUMP (.gsa) THAT YtlgmiifpdjalpaaProg.lean LOADS. Nothing in Lean hashes anything: it is a label: what it is worth is what the hold of that sum in a sandbox is worth. -/
noncomputable def Try.pinned : Pinned := { name := "ytlgmiifpdjalpaa", sum := "7a7d5f38fe238c6757afe16b261d875fb871b48577ff5d6bce53ba35c27fd9af", checked := Try.checked }
namespace Rows
def none {H : Type} : Left H := { results := [], args := [] }

/-- 'laws.FnLoans': WHATEVER THE INPUT: true; the input reads as it did. -/
def fnLoansSpec : ChangeSpec := { name := "fnLoans", fn := fun _ => fun
  | [d] => { results := [.lit (.bool true)], args := [d] }
  | _ => none }
def fnLoansRow : OpenClaim := { program := "ytlgmiifpdjalpaa", sum := "7a7d5f38fe238c6757afe16b261d875fb871b48577ff5d6bce53ba35c27fd9af", func := "loop.example/g00991/laws.FnLoans", spec := "fnLoans", apart := false }
def FnLoansSaid : Prop := fnLoansRow.holds Try.pinned (OpenSpec.ofChange fnLoansSpec)

/-- ITS FALSE NEIGHBOUR: 'it returns false'. Refute it at one input. -/
def fnLoansWrong : ChangeSpec := { name := "fnLoans", fn := fun _ => fun
  | [d] => { results := [.lit (.bool false)], args := [d] }
  | _ => none }
def FnLoansWrongFalsely : Prop := fnLoansRow.holds Try.pinned (OpenSpec.ofChange fnLoansWrong)

/-- 'laws.FnExactLeastOnDuty': WHATEVER THE INPUT: true; the input reads as it did. -/
def fnExactLeastOnDutySpec : ChangeSpec := { name := "fnExactLeastOnDuty", fn := fun _ => fun
  | [d1, d2, d3] => { results := [.lit (.bool true)], args := [d1, d2, d3] }
  | _ => none }
def fnExactLeastOnDutyRow : OpenClaim := { program := "ytlgmiifpdjalpaa", sum := "7a7d5f38fe238c6757afe16b261d875fb871b48577ff5d6bce53ba35c27fd9af", func := "loop.example/g00991/laws.FnExactLeastOnDuty", spec := "fnExactLeastOnDuty", apart := false }
def FnExactLeastOnDutySaid : Prop := fnExactLeastOnDutyRow.holds Try.pinned (OpenSpec.ofChange fnExactLeastOnDutySpec)

/-- ITS FALSE NEIGHBOUR: 'it returns false'. Refute it at one input. -/
def fnExactLeastOnDutyWrong : ChangeSpec := { name := "fnExactLeastOnDuty", fn := fun _ => fun
  | [d1, d2, d3] => { results := [.lit (.bool false)], args := [d1, d2, d3] }
  | _ => none }
def FnExactLeastOnDutyWrongFalsely : Prop := fnExactLeastOnDutyRow.holds Try.pinned (OpenSpec.ofChange fnExactLeastOnDutyWrong)

/-- 'laws.FnExactHallsFor': WHATEVER THE INPUT: true; the input reads as it did. -/
def fnExactHallsForSpec : ChangeSpec := { name := "fnExactHallsFor", fn := fun _ => fun
  | [d1, d2] => { results := [.lit (.bool true)], args := [d1, d2] }
  | _ => none }
def fnExactHallsForRow : OpenClaim := { program := "ytlgmiifpdjalpaa", sum := "7a7d5f38fe238c6757afe16b261d875fb871b48577ff5d6bce53ba35c27fd9af", func := "loop.example/g00991/laws.FnExactHallsFor", spec := "fnExactHallsFor", apart := false }
def FnExactHallsForSaid : Prop := fnExactHallsForRow.holds Try.pinned (OpenSpec.ofChange fnExactHallsForSpec)

/-- ITS FALSE NEIGHBOUR: 'it returns false'. Refute it at one input. -/
def fnExactHallsForWrong : ChangeSpec := { name := "fnExactHallsFor", fn := fun _ => fun
  | [d1, d2] => { results := [.lit (.bool false)], args := [d1, d2] }
  | _ => none }
def FnExactHallsForWrongFalsely : Prop := fnExactHallsForRow.holds Try.pinned (OpenSpec.ofChange fnExactHallsForWrong)

/-- 'laws.FnExactMissingObjects': WHATEVER THE INPUT: true; the input reads as it did. -/
def fnExactMissingObjectsSpec : ChangeSpec := { name := "fnExactMissingObjects", fn := fun _ => fun
  | [d1, d2] => { results := [.lit (.bool true)], args := [d1, d2] }
  | _ => none }
def fnExactMissingObjectsRow : OpenClaim := { program := "ytlgmiifpdjalpaa", sum := "7a7d5f38fe238c6757afe16b261d875fb871b48577ff5d6bce53ba35c27fd9af", func := "loop.example/g00991/laws.FnExactMissingObjects", spec := "fnExactMissingObjects", apart := false }
def FnExactMissingObjectsSaid : Prop := fnExactMissingObjectsRow.holds Try.pinned (OpenSpec.ofChange fnExactMissingObjectsSpec)

/-- ITS FALSE NEIGHBOUR: 'it returns false'. Refute it at one input. -/
def fnExactMissingObjectsWrong : ChangeSpec := { name := "fnExactMissingObjects", fn := fun _ => fun
  | [d1, d2] => { results := [.lit (.bool false)], args := [d1, d2] }
  | _ => none }
def FnExactMissingObjectsWrongFalsely : Prop := fnExactMissingObjectsRow.holds Try.pinned (OpenSpec.ofChange fnExactMissingObjectsWrong)

/-- 'laws.FnPlans': WHATEVER THE INPUT: true; the input reads as it did. -/
def fnPlansSpec : ChangeSpec := { name := "fnPlans", fn := fun _ => fun
  | [d] => { results := [.lit (.bool true)], args := [d] }
  | _ => none }
def fnPlansRow : OpenClaim := { program := "ytlgmiifpdjalpaa", sum := "7a7d5f38fe238c6757afe16b261d875fb871b48577ff5d6bce53ba35c27fd9af", func := "loop.example/g00991/laws.FnPlans", spec := "fnPlans", unfollowed := true, recurses := true, apart := false }
def FnPlansSaid : Prop := fnPlansRow.holds Try.pinned (OpenSpec.ofChange fnPlansSpec)

/-- ITS FALSE NEIGHBOUR: 'it returns false'. Refute it at one input. -/
def fnPlansWrong : ChangeSpec := { name := "fnPlans", fn := fun _ => fun
  | [d] => { results := [.lit (.bool false)], args := [d] }
  | _ => none }
def FnPlansWrongFalsely : Prop := fnPlansRow.holds Try.pinned (OpenSpec.ofChange fnPlansWrong)

/-- 'laws.FnExactPlanOk': WHATEVER THE INPUT: true; the input reads as it did. -/
def fnExactPlanOkSpec : ChangeSpec := { name := "fnExactPlanOk", fn := fun _ => fun
  | [d1, d2, d3, d4] => { results := [.lit (.bool true)], args := [d1, d2, d3, d4] }
  | _ => none }
def fnExactPlanOkRow : OpenClaim := { program := "ytlgmiifpdjalpaa", sum := "7a7d5f38fe238c6757afe16b261d875fb871b48577ff5d6bce53ba35c27fd9af", func := "loop.example/g00991/laws.FnExactPlanOk", spec := "fnExactPlanOk", apart := false }
def FnExactPlanOkSaid : Prop := fnExactPlanOkRow.holds Try.pinned (OpenSpec.ofChange fnExactPlanOkSpec)

/-- ITS FALSE NEIGHBOUR: 'it returns false'. Refute it at one input. -/
def fnExactPlanOkWrong : ChangeSpec := { name := "fnExactPlanOk", fn := fun _ => fun
  | [d1, d2, d3, d4] => { results := [.lit (.bool false)], args := [d1, d2, d3, d4] }
  | _ => none }
def FnExactPlanOkWrongFalsely : Prop := fnExactPlanOkRow.holds Try.pinned (OpenSpec.ofChange fnExactPlanOkWrong)

/-- 'laws.FnExactCountPlans': WHATEVER THE INPUT: true; the input reads as it did. -/
def fnExactCountPlansSpec : ChangeSpec := { name := "fnExactCountPlans", fn := fun _ => fun
  | [d1, d2, d3] => { results := [.lit (.bool true)], args := [d1, d2, d3] }
  | _ => none }
def fnExactCountPlansRow : OpenClaim := { program := "ytlgmiifpdjalpaa", sum := "7a7d5f38fe238c6757afe16b261d875fb871b48577ff5d6bce53ba35c27fd9af", func := "loop.example/g00991/laws.FnExactCountPlans", spec := "fnExactCountPlans", recurses := true, apart := false }
def FnExactCountPlansSaid : Prop := fnExactCountPlansRow.holds Try.pinned (OpenSpec.ofChange fnExactCountPlansSpec)

/-- ITS FALSE NEIGHBOUR: 'it returns false'. Refute it at one input. -/
def fnExactCountPlansWrong : ChangeSpec := { name := "fnExactCountPlans", fn := fun _ => fun
  | [d1, d2, d3] => { results := [.lit (.bool false)], args := [d1, d2, d3] }
  | _ => none }
def FnExactCountPlansWrongFalsely : Prop := fnExactCountPlansRow.holds Try.pinned (OpenSpec.ofChange fnExactCountPlansWrong)

/-- 'laws.FnExactFirstPlan': WHATEVER THE INPUT: true; the input reads as it did. -/
def fnExactFirstPlanSpec : ChangeSpec := { name := "fnExactFirstPlan", fn := fun _ => fun
  | [d1, d2, d3] => { results := [.lit (.bool true)], args := [d1, d2, d3] }
  | _ => none }
def fnExactFirstPlanRow : OpenClaim := { program := "ytlgmiifpdjalpaa", sum := "7a7d5f38fe238c6757afe16b261d875fb871b48577ff5d6bce53ba35c27fd9af", func := "loop.example/g00991/laws.FnExactFirstPlan", spec := "fnExactFirstPlan", recurses := true, apart := false }
def FnExactFirstPlanSaid : Prop := fnExactFirstPlanRow.holds Try.pinned (OpenSpec.ofChange fnExactFirstPlanSpec)

/-- ITS FALSE NEIGHBOUR: 'it returns false'. Refute it at one input. -/
def fnExactFirstPlanWrong : ChangeSpec := { name := "fnExactFirstPlan", fn := fun _ => fun
  | [d1, d2, d3] => { results := [.lit (.bool false)], args := [d1, d2, d3] }
  | _ => none }
def FnExactFirstPlanWrongFalsely : Prop := fnExactFirstPlanRow.holds Try.pinned (OpenSpec.ofChange fnExactFirstPlanWrong)

/-- 'laws.FnExactLeastConflict': WHATEVER THE INPUT: true; the input reads as it did. -/
def fnExactLeastConflictSpec : ChangeSpec := { name := "fnExactLeastConflict", fn := fun _ => fun
  | [d1, d2, d3] => { results := [.lit (.bool true)], args := [d1, d2, d3] }
  | _ => none }
def fnExactLeastConflictRow : OpenClaim := { program := "ytlgmiifpdjalpaa", sum := "7a7d5f38fe238c6757afe16b261d875fb871b48577ff5d6bce53ba35c27fd9af", func := "loop.example/g00991/laws.FnExactLeastConflict", spec := "fnExactLeastConflict", unfollowed := true, recurses := true, apart := false }
def FnExactLeastConflictSaid : Prop := fnExactLeastConflictRow.holds Try.pinned (OpenSpec.ofChange fnExactLeastConflictSpec)

/-- ITS FALSE NEIGHBOUR: 'it returns false'. Refute it at one input. -/
def fnExactLeastConflictWrong : ChangeSpec := { name := "fnExactLeastConflict", fn := fun _ => fun
  | [d1, d2, d3] => { results := [.lit (.bool false)], args := [d1, d2, d3] }
  | _ => none }
def FnExactLeastConflictWrongFalsely : Prop := fnExactLeastConflictRow.holds Try.pinned (OpenSpec.ofChange fnExactLeastConflictWrong)

/-- 'laws.FnShifts': WHATEVER THE INPUT: true; the input reads as it did. -/
def fnShiftsSpec : ChangeSpec := { name := "fnShifts", fn := fun _ => fun
  | [d] => { results := [.lit (.bool true)], args := [d] }
  | _ => none }
def fnShiftsRow : OpenClaim := { program := "ytlgmiifpdjalpaa", sum := "7a7d5f38fe238c6757afe16b261d875fb871b48577ff5d6bce53ba35c27fd9af", func := "loop.example/g00991/laws.FnShifts", spec := "fnShifts", unfollowed := true, recurses := true, apart := false }
def FnShiftsSaid : Prop := fnShiftsRow.holds Try.pinned (OpenSpec.ofChange fnShiftsSpec)

/-- ITS FALSE NEIGHBOUR: 'it returns false'. Refute it at one input. -/
def fnShiftsWrong : ChangeSpec := { name := "fnShifts", fn := fun _ => fun
  | [d] => { results := [.lit (.bool false)], args := [d] }
  | _ => none }
def FnShiftsWrongFalsely : Prop := fnShiftsRow.holds Try.pinned (OpenSpec.ofChange fnShiftsWrong)

/-- 'laws.FnExactCountFill': WHATEVER THE INPUT: true; the input reads as it did. -/
def fnExactCountFillSpec : ChangeSpec := { name := "fnExactCountFill", fn := fun _ => fun
  | [d1, d2] => { results := [.lit (.bool true)], args := [d1, d2] }
  | _ => none }
def fnExactCountFillRow : OpenClaim := { program := "ytlgmiifpdjalpaa", sum := "7a7d5f38fe238c6757afe16b261d875fb871b48577ff5d6bce53ba35c27fd9af", func := "loop.example/g00991/laws.FnExactCountFill", spec := "fnExactCountFill", unfollowed := true, recurses := true, apart := false }
def FnExactCountFillSaid : Prop := fnExactCountFillRow.holds Try.pinned (OpenSpec.ofChange fnExactCountFillSpec)

/-- ITS FALSE NEIGHBOUR: 'it returns false'. Refute it at one input. -/
def fnExactCountFillWrong : ChangeSpec := { name := "fnExactCountFill", fn := fun _ => fun
  | [d1, d2] => { results := [.lit (.bool false)], args := [d1, d2] }
  | _ => none }
def FnExactCountFillWrongFalsely : Prop := fnExactCountFillRow.holds Try.pinned (OpenSpec.ofChange fnExactCountFillWrong)

/-- 'laws.FnExactFillShifts': WHATEVER THE INPUT: true; the input reads as it did. -/
def fnExactFillShiftsSpec : ChangeSpec := { name := "fnExactFillShifts", fn := fun _ => fun
  | [d1, d2] => { results := [.lit (.bool true)], args := [d1, d2] }
  | _ => none }
def fnExactFillShiftsRow : OpenClaim := { program := "ytlgmiifpdjalpaa", sum := "7a7d5f38fe238c6757afe16b261d875fb871b48577ff5d6bce53ba35c27fd9af", func := "loop.example/g00991/laws.FnExactFillShifts", spec := "fnExactFillShifts", unfollowed := true, recurses := true, apart := false }
def FnExactFillShiftsSaid : Prop := fnExactFillShiftsRow.holds Try.pinned (OpenSpec.ofChange fnExactFillShiftsSpec)

/-- ITS FALSE NEIGHBOUR: 'it returns false'. Refute it at one input. -/
def fnExactFillShiftsWrong : ChangeSpec := { name := "fnExactFillShifts", fn := fun _ => fun
  | [d1, d2] => { results := [.lit (.bool false)], args := [d1, d2] }
  | _ => none }
def FnExactFillShiftsWrongFalsely : Prop := fnExactFillShiftsRow.holds Try.pinned (OpenSpec.ofChange fnExactFillShiftsWrong)

/-- 'laws.FnStocks': WHATEVER THE INPUT: true; the input reads as it did. -/
def fnStocksSpec : ChangeSpec := { name := "fnStocks", fn := fun _ => fun
  | [d] => { results := [.lit (.bool true)], args := [d] }
  | _ => none }
def fnStocksRow : OpenClaim := { program := "ytlgmiifpdjalpaa", sum := "7a7d5f38fe238c6757afe16b261d875fb871b48577ff5d6bce53ba35c27fd9af", func := "loop.example/g00991/laws.FnStocks", spec := "fnStocks", recurses := true, apart := false }
def FnStocksSaid : Prop := fnStocksRow.holds Try.pinned (OpenSpec.ofChange fnStocksSpec)

/-- ITS FALSE NEIGHBOUR: 'it returns false'. Refute it at one input. -/
def fnStocksWrong : ChangeSpec := { name := "fnStocks", fn := fun _ => fun
  | [d] => { results := [.lit (.bool false)], args := [d] }
  | _ => none }
def FnStocksWrongFalsely : Prop := fnStocksRow.holds Try.pinned (OpenSpec.ofChange fnStocksWrong)

/-- 'laws.FnExactSuspects': WHATEVER THE INPUT: true; the input reads as it did. -/
def fnExactSuspectsSpec : ChangeSpec := { name := "fnExactSuspects", fn := fun _ => fun
  | [d1, d2, d3, d4] => { results := [.lit (.bool true)], args := [d1, d2, d3, d4] }
  | _ => none }
def fnExactSuspectsRow : OpenClaim := { program := "ytlgmiifpdjalpaa", sum := "7a7d5f38fe238c6757afe16b261d875fb871b48577ff5d6bce53ba35c27fd9af", func := "loop.example/g00991/laws.FnExactSuspects", spec := "fnExactSuspects", recurses := true, apart := false }
def FnExactSuspectsSaid : Prop := fnExactSuspectsRow.holds Try.pinned (OpenSpec.ofChange fnExactSuspectsSpec)

/-- ITS FALSE NEIGHBOUR: 'it returns false'. Refute it at one input. -/
def fnExactSuspectsWrong : ChangeSpec := { name := "fnExactSuspects", fn := fun _ => fun
  | [d1, d2, d3, d4] => { results := [.lit (.bool false)], args := [d1, d2, d3, d4] }
  | _ => none }
def FnExactSuspectsWrongFalsely : Prop := fnExactSuspectsRow.holds Try.pinned (OpenSpec.ofChange fnExactSuspectsWrong)

/- THE SECOND FORM. 'bulk': how many values and letters a reading holds, each counted each time it is reached (what is shared counts as often as it is met; a slice's spare places count too). A statement '..UptoSaid' is the law's where the arguments, and the package variables that the reading takes, are together of bulk at most 1048576: NARROWER than '..Said'. Prove '..Said' where nothing that the law and all that it calls make is longer than what came in: it says more and counts as full. Else prove '..UptoSaid'. A law counts once. -/
mutual
def uptoBulk {H : Type} : DataW H → Nat
  | .lit (.string bytes) => bytes.length + 1
  | .lit _ => 1
  | .nil => 1
  | .ptr d => uptoBulk d + 1
  | .slice elems spare => uptoBulkAll elems + uptoBulkAll spare + 1
  | .agg parts => uptoBulkAll parts + 1
  | .iface _ d => uptoBulk d + 1
  | .map entries => uptoBulkEntries entries + 1
  | .held _ => 1
def uptoBulkAll {H : Type} : List (DataW H) → Nat
  | [] => 0
  | d :: r => uptoBulk d + uptoBulkAll r
def uptoBulkEntries {H : Type} : List (Lit × DataW H) → Nat
  | [] => 0
  | x :: r => uptoBulkEntry x + uptoBulkEntries r
def uptoBulkEntry {H : Type} : Lit × DataW H → Nat
  | (.string bytes, d) => bytes.length + uptoBulk d + 1
  | (_, d) => uptoBulk d + 1
 end
def uptoSmall : (H : Type) → List (DataW H) → Bool := fun _ ds => decide (uptoBulkAll ds ≤ 1048576)
def OpenSpec.upto (s : _root_.Go.ChangeSpec) : _root_.Go.OpenSpec := { _root_.Go.OpenSpec.ofChange s with cond := some uptoSmall }

/-- 'laws.FnLoans', WHERE WHAT IT READS IS OF BULK AT MOST 1048576: true; the input reads as it did. -/
def fnLoansUptoRow : OpenClaim := { program := "ytlgmiifpdjalpaa", sum := "7a7d5f38fe238c6757afe16b261d875fb871b48577ff5d6bce53ba35c27fd9af", func := "loop.example/g00991/laws.FnLoans", spec := "fnLoans", apart := false, narrowed := true }
def FnLoansUptoSaid : Prop := fnLoansUptoRow.holds Try.pinned (OpenSpec.upto fnLoansSpec)

/-- 'laws.FnExactLeastOnDuty', WHERE WHAT IT READS IS OF BULK AT MOST 1048576: true; the input reads as it did. -/
def fnExactLeastOnDutyUptoRow : OpenClaim := { program := "ytlgmiifpdjalpaa", sum := "7a7d5f38fe238c6757afe16b261d875fb871b48577ff5d6bce53ba35c27fd9af", func := "loop.example/g00991/laws.FnExactLeastOnDuty", spec := "fnExactLeastOnDuty", apart := false, narrowed := true }
def FnExactLeastOnDutyUptoSaid : Prop := fnExactLeastOnDutyUptoRow.holds Try.pinned (OpenSpec.upto fnExactLeastOnDutySpec)

/-- 'laws.FnExactHallsFor', WHERE WHAT IT READS IS OF BULK AT MOST 1048576: true; the input reads as it did. -/
def fnExactHallsForUptoRow : OpenClaim := { program := "ytlgmiifpdjalpaa", sum := "7a7d5f38fe238c6757afe16b261d875fb871b48577ff5d6bce53ba35c27fd9af", func := "loop.example/g00991/laws.FnExactHallsFor", spec := "fnExactHallsFor", apart := false, narrowed := true }
def FnExactHallsForUptoSaid : Prop := fnExactHallsForUptoRow.holds Try.pinned (OpenSpec.upto fnExactHallsForSpec)

/-- 'laws.FnExactMissingObjects', WHERE WHAT IT READS IS OF BULK AT MOST 1048576: true; the input reads as it did. -/
def fnExactMissingObjectsUptoRow : OpenClaim := { program := "ytlgmiifpdjalpaa", sum := "7a7d5f38fe238c6757afe16b261d875fb871b48577ff5d6bce53ba35c27fd9af", func := "loop.example/g00991/laws.FnExactMissingObjects", spec := "fnExactMissingObjects", apart := false, narrowed := true }
def FnExactMissingObjectsUptoSaid : Prop := fnExactMissingObjectsUptoRow.holds Try.pinned (OpenSpec.upto fnExactMissingObjectsSpec)

/-- 'laws.FnPlans', WHERE WHAT IT READS IS OF BULK AT MOST 1048576: true; the input reads as it did. -/
def fnPlansUptoRow : OpenClaim := { program := "ytlgmiifpdjalpaa", sum := "7a7d5f38fe238c6757afe16b261d875fb871b48577ff5d6bce53ba35c27fd9af", func := "loop.example/g00991/laws.FnPlans", spec := "fnPlans", unfollowed := true, recurses := true, apart := false, narrowed := true }
def FnPlansUptoSaid : Prop := fnPlansUptoRow.holds Try.pinned (OpenSpec.upto fnPlansSpec)

/-- 'laws.FnExactPlanOk', WHERE WHAT IT READS IS OF BULK AT MOST 1048576: true; the input reads as it did. -/
def fnExactPlanOkUptoRow : OpenClaim := { program := "ytlgmiifpdjalpaa", sum := "7a7d5f38fe238c6757afe16b261d875fb871b48577ff5d6bce53ba35c27fd9af", func := "loop.example/g00991/laws.FnExactPlanOk", spec := "fnExactPlanOk", apart := false, narrowed := true }
def FnExactPlanOkUptoSaid : Prop := fnExactPlanOkUptoRow.holds Try.pinned (OpenSpec.upto fnExactPlanOkSpec)

/-- 'laws.FnExactCountPlans', WHERE WHAT IT READS IS OF BULK AT MOST 1048576: true; the input reads as it did. -/
def fnExactCountPlansUptoRow : OpenClaim := { program := "ytlgmiifpdjalpaa", sum := "7a7d5f38fe238c6757afe16b261d875fb871b48577ff5d6bce53ba35c27fd9af", func := "loop.example/g00991/laws.FnExactCountPlans", spec := "fnExactCountPlans", recurses := true, apart := false, narrowed := true }
def FnExactCountPlansUptoSaid : Prop := fnExactCountPlansUptoRow.holds Try.pinned (OpenSpec.upto fnExactCountPlansSpec)

/-- 'laws.FnExactFirstPlan', WHERE WHAT IT READS IS OF BULK AT MOST 1048576: true; the input reads as it did. -/
def fnExactFirstPlanUptoRow : OpenClaim := { program := "ytlgmiifpdjalpaa", sum := "7a7d5f38fe238c6757afe16b261d875fb871b48577ff5d6bce53ba35c27fd9af", func := "loop.example/g00991/laws.FnExactFirstPlan", spec := "fnExactFirstPlan", recurses := true, apart := false, narrowed := true }
def FnExactFirstPlanUptoSaid : Prop := fnExactFirstPlanUptoRow.holds Try.pinned (OpenSpec.upto fnExactFirstPlanSpec)

/-- 'laws.FnExactLeastConflict', WHERE WHAT IT READS IS OF BULK AT MOST 1048576: true; the input reads as it did. -/
def fnExactLeastConflictUptoRow : OpenClaim := { program := "ytlgmiifpdjalpaa", sum := "7a7d5f38fe238c6757afe16b261d875fb871b48577ff5d6bce53ba35c27fd9af", func := "loop.example/g00991/laws.FnExactLeastConflict", spec := "fnExactLeastConflict", unfollowed := true, recurses := true, apart := false, narrowed := true }
def FnExactLeastConflictUptoSaid : Prop := fnExactLeastConflictUptoRow.holds Try.pinned (OpenSpec.upto fnExactLeastConflictSpec)

/-- 'laws.FnShifts', WHERE WHAT IT READS IS OF BULK AT MOST 1048576: true; the input reads as it did. -/
def fnShiftsUptoRow : OpenClaim := { program := "ytlgmiifpdjalpaa", sum := "7a7d5f38fe238c6757afe16b261d875fb871b48577ff5d6bce53ba35c27fd9af", func := "loop.example/g00991/laws.FnShifts", spec := "fnShifts", unfollowed := true, recurses := true, apart := false, narrowed := true }
def FnShiftsUptoSaid : Prop := fnShiftsUptoRow.holds Try.pinned (OpenSpec.upto fnShiftsSpec)

/-- 'laws.FnExactCountFill', WHERE WHAT IT READS IS OF BULK AT MOST 1048576: true; the input reads as it did. -/
def fnExactCountFillUptoRow : OpenClaim := { program := "ytlgmiifpdjalpaa", sum := "7a7d5f38fe238c6757afe16b261d875fb871b48577ff5d6bce53ba35c27fd9af", func := "loop.example/g00991/laws.FnExactCountFill", spec := "fnExactCountFill", unfollowed := true, recurses := true, apart := false, narrowed := true }
def FnExactCountFillUptoSaid : Prop := fnExactCountFillUptoRow.holds Try.pinned (OpenSpec.upto fnExactCountFillSpec)

/-- 'laws.FnExactFillShifts', WHERE WHAT IT READS IS OF BULK AT MOST 1048576: true; the input reads as it did. -/
def fnExactFillShiftsUptoRow : OpenClaim := { program := "ytlgmiifpdjalpaa", sum := "7a7d5f38fe238c6757afe16b261d875fb871b48577ff5d6bce53ba35c27fd9af", func := "loop.example/g00991/laws.FnExactFillShifts", spec := "fnExactFillShifts", unfollowed := true, recurses := true, apart := false, narrowed := true }
def FnExactFillShiftsUptoSaid : Prop := fnExactFillShiftsUptoRow.holds Try.pinned (OpenSpec.upto fnExactFillShiftsSpec)

/-- 'laws.FnStocks', WHERE WHAT IT READS IS OF BULK AT MOST 1048576: true; the input reads as it did. -/
def fnStocksUptoRow : OpenClaim := { program := "ytlgmiifpdjalpaa", sum := "7a7d5f38fe238c6757afe16b261d875fb871b48577ff5d6bce53ba35c27fd9af", func := "loop.example/g00991/laws.FnStocks", spec := "fnStocks", recurses := true, apart := false, narrowed := true }
def FnStocksUptoSaid : Prop := fnStocksUptoRow.holds Try.pinned (OpenSpec.upto fnStocksSpec)

/-- 'laws.FnExactSuspects', WHERE WHAT IT READS IS OF BULK AT MOST 1048576: true; the input reads as it did. -/
def fnExactSuspectsUptoRow : OpenClaim := { program := "ytlgmiifpdjalpaa", sum := "7a7d5f38fe238c6757afe16b261d875fb871b48577ff5d6bce53ba35c27fd9af", func := "loop.example/g00991/laws.FnExactSuspects", spec := "fnExactSuspects", recurses := true, apart := false, narrowed := true }
def FnExactSuspectsUptoSaid : Prop := fnExactSuspectsUptoRow.holds Try.pinned (OpenSpec.upto fnExactSuspectsSpec)

end Rows
end Go.Proofs.Ytlgmiifpdjalpaa
