/-
  No cell of these rows narrows 'for every input' (looked for: loops, veiled, ifaces, maps, wideKeys, modest, calm, conditions, laid).
  DERIVED. THE GIVEN ROWS OF THIS SEAT. 4 by the template 'for every input the law returns true; each argument reads behind the call as it read before'; 0 by the template 'total and deterministic' (their statements: YtkelmeemblmggaaTotals.lean).
  GIVEN WITH THE SEED: the statements are not yours to turn. If you find one false, say at which input.
  Laid BY PROGRAM, IN A SANDBOX (cutbox-rows.mjs): the forced cells as the released guide's own fill.sh prints them over the translation 5202b85bf1536bdb… (all of the seat's roots in one cut). By AI agents, Wed Nov 11 2026. No macro, syntax, notation, axiom, sorry.
-/
import Derived.Test.YtkelmeemblmggaaChecked
import GoSem.Claim
import GoSem.ClaimJoined
import GoSem.ClaimMapViews
import Derived.JoinedTies
import Derived.KernelRfl
namespace Go.Proofs.Ytkelmeemblmggaa
/- THE CELL 'sum', in the pinned program and in every row, IS THE sha256 OF THE DUMP (.gsa) THAT YtkelmeemblmggaaProg.lean LOADS. Nothing in Lean hashes anything: it is a label: what it is worth is what the hold of that sum in a sandbox is worth. -/
noncomputable def Try.pinned : Pinned := { name := "ytkelmeemblmggaa", sum := "5202b85bf1536bdb5451f6c8e35af9793f1cef1f7700076174a8c148cf111c79", checked := Try.checked }
namespace Rows
def none {H : Type} : Left H := { results := [], args := [] }

/-- 'laws.FnExactSampleMuseum': WHATEVER THE INPUT: true; the input reads as it did. -/
def fnExactSampleMuseumSpec : ChangeSpec := { name := "fnExactSampleMuseum", fn := fun _ => fun
  | [] => { results := [.lit (.bool true)], args := [] }
  | _ => none }
def fnExactSampleMuseumRow : OpenClaim := { program := "ytkelmeemblmggaa", sum := "5202b85bf1536bdb5451f6c8e35af9793f1cef1f7700076174a8c148cf111c79", func := "loop.example/g00991/laws.FnExactSampleMuseum", spec := "fnExactSampleMuseum", unfollowed := true, recurses := true, apart := false }
def FnExactSampleMuseumSaid : Prop := fnExactSampleMuseumRow.holds Try.pinned (OpenSpec.ofChange fnExactSampleMuseumSpec)

/-- ITS FALSE NEIGHBOUR: 'it returns false'. Refute it at one input. -/
def fnExactSampleMuseumWrong : ChangeSpec := { name := "fnExactSampleMuseum", fn := fun _ => fun
  | [] => { results := [.lit (.bool false)], args := [] }
  | _ => none }
def FnExactSampleMuseumWrongFalsely : Prop := fnExactSampleMuseumRow.holds Try.pinned (OpenSpec.ofChange fnExactSampleMuseumWrong)

/-- 'laws.FnExactNewMuseum': WHATEVER THE INPUT: true; the input reads as it did. -/
def fnExactNewMuseumSpec : ChangeSpec := { name := "fnExactNewMuseum", fn := fun _ => fun
  | [d1, d2, d3] => { results := [.lit (.bool true)], args := [d1, d2, d3] }
  | _ => none }
def fnExactNewMuseumRow : OpenClaim := { program := "ytkelmeemblmggaa", sum := "5202b85bf1536bdb5451f6c8e35af9793f1cef1f7700076174a8c148cf111c79", func := "loop.example/g00991/laws.FnExactNewMuseum", spec := "fnExactNewMuseum", unfollowed := true, recurses := true, apart := false }
def FnExactNewMuseumSaid : Prop := fnExactNewMuseumRow.holds Try.pinned (OpenSpec.ofChange fnExactNewMuseumSpec)

/-- ITS FALSE NEIGHBOUR: 'it returns false'. Refute it at one input. -/
def fnExactNewMuseumWrong : ChangeSpec := { name := "fnExactNewMuseum", fn := fun _ => fun
  | [d1, d2, d3] => { results := [.lit (.bool false)], args := [d1, d2, d3] }
  | _ => none }
def FnExactNewMuseumWrongFalsely : Prop := fnExactNewMuseumRow.holds Try.pinned (OpenSpec.ofChange fnExactNewMuseumWrong)

/-- 'laws.FnExactNextDays': WHATEVER THE INPUT: true; the input reads as it did. -/
def fnExactNextDaysSpec : ChangeSpec := { name := "fnExactNextDays", fn := fun _ => fun
  | [d1, d2] => { results := [.lit (.bool true)], args := [d1, d2] }
  | _ => none }
def fnExactNextDaysRow : OpenClaim := { program := "ytkelmeemblmggaa", sum := "5202b85bf1536bdb5451f6c8e35af9793f1cef1f7700076174a8c148cf111c79", func := "loop.example/g00991/laws.FnExactNextDays", spec := "fnExactNextDays", unfollowed := true, recurses := true, apart := false }
def FnExactNextDaysSaid : Prop := fnExactNextDaysRow.holds Try.pinned (OpenSpec.ofChange fnExactNextDaysSpec)

/-- ITS FALSE NEIGHBOUR: 'it returns false'. Refute it at one input. -/
def fnExactNextDaysWrong : ChangeSpec := { name := "fnExactNextDays", fn := fun _ => fun
  | [d1, d2] => { results := [.lit (.bool false)], args := [d1, d2] }
  | _ => none }
def FnExactNextDaysWrongFalsely : Prop := fnExactNextDaysRow.holds Try.pinned (OpenSpec.ofChange fnExactNextDaysWrong)

/-- 'laws.FnExactGuardWalk': WHATEVER THE INPUT: true; the input reads as it did. -/
def fnExactGuardWalkSpec : ChangeSpec := { name := "fnExactGuardWalk", fn := fun _ => fun
  | [d1, d2, d3] => { results := [.lit (.bool true)], args := [d1, d2, d3] }
  | _ => none }
def fnExactGuardWalkRow : OpenClaim := { program := "ytkelmeemblmggaa", sum := "5202b85bf1536bdb5451f6c8e35af9793f1cef1f7700076174a8c148cf111c79", func := "loop.example/g00991/laws.FnExactGuardWalk", spec := "fnExactGuardWalk", unfollowed := true, recurses := true, apart := false }
def FnExactGuardWalkSaid : Prop := fnExactGuardWalkRow.holds Try.pinned (OpenSpec.ofChange fnExactGuardWalkSpec)

/-- ITS FALSE NEIGHBOUR: 'it returns false'. Refute it at one input. -/
def fnExactGuardWalkWrong : ChangeSpec := { name := "fnExactGuardWalk", fn := fun _ => fun
  | [d1, d2, d3] => { results := [.lit (.bool false)], args := [d1, d2, d3] }
  | _ => none }
def FnExactGuardWalkWrongFalsely : Prop := fnExactGuardWalkRow.holds Try.pinned (OpenSpec.ofChange fnExactGuardWalkWrong)

/- THE SECOND FORM. 'bulk': how many values and letters a reading holds, each counted each time it is reached (what is shared counts as often as it is met; a slice's spare places count too). A statement '..UptoSaid' is the law's where the arguments, and the package variables that the reading takes, are together of bulk at most 1048576: NARROWER than '..Said'. Prove '..Said' where nothing that the law and all that it calls make is longer than what came in: it says more and counts as full. Else prove '..UptoSaid'. A law counts once. -/
mutual
def uptoBulk {H : Type} : DataW H → Nat
  | .lit (.string bytes) => bytes.length + 1
  | .lit _ => 1
  | .nil => 1
  | .ptr d => uptoBulk d + 1
  | .slice elems spare => uptoBulkAll elems + uptoBulkAll spare + 1
  | .agg parts => uptoBulkAll parts + 1
  | .iface _ d => uptoBulk d + 1
  | .map entries => uptoBulkEntries entries + 1
  | .held _ => 1
def uptoBulkAll {H : Type} : List (DataW H) → Nat
  | [] => 0
  | d :: r => uptoBulk d + uptoBulkAll r
def uptoBulkEntries {H : Type} : List (Lit × DataW H) → Nat
  | [] => 0
  | x :: r => uptoBulkEntry x + uptoBulkEntries r
def uptoBulkEntry {H : Type} : Lit × DataW H → Nat
  | (.string bytes, d) => bytes.length + uptoBulk d + 1
  | (_, d) => uptoBulk d + 1
 end
def uptoSmall : (H : Type) → List (DataW H) → Bool := fun _ ds => decide (uptoBulkAll ds ≤ 1048576)
def OpenSpec.upto (s : _root_.Go.ChangeSpec) : _root_.Go.OpenSpec := { _root_.Go.OpenSpec.ofChange s with cond := some uptoSmall }

/-- 'laws.FnExactSampleMuseum', WHERE WHAT IT READS IS OF BULK AT MOST 1048576: true; the input reads as it did. -/
def fnExactSampleMuseumUptoRow : OpenClaim := { program := "ytkelmeemblmggaa", sum := "5202b85bf1536bdb5451f6c8e35af9793f1cef1f7700076174a8c148cf111c79", func := "loop.example/g00991/laws.FnExactSampleMuseum", spec := "fnExactSampleMuseum", unfollowed := true, recurses := true, apart := false, narrowed := true }
def FnExactSampleMuseumUptoSaid : Prop := fnExactSampleMuseumUptoRow.holds Try.pinned (OpenSpec.upto fnExactSampleMuseumSpec)

/-- 'laws.FnExactNewMuseum', WHERE WHAT IT READS IS OF BULK AT MOST 1048576: true; the input reads as it did. -/
def fnExactNewMuseumUptoRow : OpenClaim := { program := "ytkelmeemblmggaa", sum := "5202b85bf1536bdb5451f6c8e35af9793f1cef1f7700076174a8c148cf111c79", func := "loop.example/g00991/laws.FnExactNewMuseum", spec := "fnExactNewMuseum", unfollowed := true, recurses := true, apart := false, narrowed := true }
def FnExactNewMuseumUptoSaid : Prop := fnExactNewMuseumUptoRow.holds Try.pinned (OpenSpec.upto fnExactNewMuseumSpec)

/-- 'laws.FnExactNextDays', WHERE WHAT IT READS IS OF BULK AT MOST 1048576: true; the input reads as it did. -/
def fnExactNextDaysUptoRow : OpenClaim := { program := "ytkelmeemblmggaa", sum := "5202b85bf1536bdb5451f6c8e35af9793f1cef1f7700076174a8c148cf111c79", func := "loop.example/g00991/laws.FnExactNextDays", spec := "fnExactNextDays", unfollowed := true, recurses := true, apart := false, narrowed := true }
def FnExactNextDaysUptoSaid : Prop := fnExactNextDaysUptoRow.holds Try.pinned (OpenSpec.upto fnExactNextDaysSpec)

/-- 'laws.FnExactGuardWalk', WHERE WHAT IT READS IS OF BULK AT MOST 1048576: true; the input reads as it did. -/
def fnExactGuardWalkUptoRow : OpenClaim := { program := "ytkelmeemblmggaa", sum := "5202b85bf1536bdb5451f6c8e35af9793f1cef1f7700076174a8c148cf111c79", func := "loop.example/g00991/laws.FnExactGuardWalk", spec := "fnExactGuardWalk", unfollowed := true, recurses := true, apart := false, narrowed := true }
def FnExactGuardWalkUptoSaid : Prop := fnExactGuardWalkUptoRow.holds Try.pinned (OpenSpec.upto fnExactGuardWalkSpec)

end Rows
end Go.Proofs.Ytkelmeemblmggaa
