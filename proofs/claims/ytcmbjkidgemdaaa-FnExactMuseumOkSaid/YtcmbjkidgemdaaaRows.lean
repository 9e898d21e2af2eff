/-
  No cell of these rows narrows 'for every input' (looked for: loops, veiled, ifaces, maps, wideKeys, modest, calm, conditions, laid).
  DERIVED. THE GIVEN ROWS OF THIS SEAT. 11 by the template 'for every input the law returns true; each argument reads behind the call as it read before'; 0 by the template 'total and deterministic' (their statements: YtcmbjkidgemdaaaTotals.lean).
  GIVEN WITH THE SEED: the statements are not yours to turn. If you find one false, say at which input.
  Laid BY PROGRAM, IN A SANDBOX (cutbox-rows.mjs): the forced cells as the released guide's own fill.sh prints them over the translation 40b75488e0a6cc47… (all of the seat's roots in one cut). By AI agents, Wed Nov 11 2026. No macro, syntax, notation, axiom, sorry.
-/
import Derived.Test.YtcmbjkidgemdaaaChecked
import GoSem.Claim
import GoSem.ClaimJoined
import GoSem.ClaimMapViews
import Derived.JoinedTies
import Derived.KernelRfl
namespace Go.Proofs.Ytcmbjkidgemdaaa
/- THE CELL 'sum', in the pinned program and in every row, IS THE sha256 OF THE DUMP (.gsa) THAT YtcmbjkidgemdaaaProg.lean LOADS. Nothing in Lean hashes anything: it is a label: what it is worth is what the hold of that sum in a sandbox is worth. -/
noncomputable def Try.pinned : Pinned := { name := "ytcmbjkidgemdaaa", sum := "40b75488e0a6cc47f8d58015397c507e2883706a990dba0b997e4af96c399ece", checked := Try.checked }
namespace Rows
def none {H : Type} : Left H := { results := [], args := [] }

/-- 'laws.FnExactRingOk': WHATEVER THE INPUT: true; the input reads as it did. -/
def fnExactRingOkSpec : ChangeSpec := { name := "fnExactRingOk", fn := fun _ => fun
  | [d1, d2] => { results := [.lit (.bool true)], args := [d1, d2] }
  | _ => none }
def fnExactRingOkRow : OpenClaim := { program := "ytcmbjkidgemdaaa", sum := "40b75488e0a6cc47f8d58015397c507e2883706a990dba0b997e4af96c399ece", func := "loop.example/g00991/laws.FnExactRingOk", spec := "fnExactRingOk", unfollowed := true, recurses := true, apart := false }
def FnExactRingOkSaid : Prop := fnExactRingOkRow.holds Try.pinned (OpenSpec.ofChange fnExactRingOkSpec)

/-- ITS FALSE NEIGHBOUR: 'it returns false'. Refute it at one input. -/
def fnExactRingOkWrong : ChangeSpec := { name := "fnExactRingOk", fn := fun _ => fun
  | [d1, d2] => { results := [.lit (.bool false)], args := [d1, d2] }
  | _ => none }
def FnExactRingOkWrongFalsely : Prop := fnExactRingOkRow.holds Try.pinned (OpenSpec.ofChange fnExactRingOkWrong)

/-- 'laws.FnExactPlacesOk': WHATEVER THE INPUT: true; the input reads as it did. -/
def fnExactPlacesOkSpec : ChangeSpec := { name := "fnExactPlacesOk", fn := fun _ => fun
  | [d1, d2] => { results := [.lit (.bool true)], args := [d1, d2] }
  | _ => none }
def fnExactPlacesOkRow : OpenClaim := { program := "ytcmbjkidgemdaaa", sum := "40b75488e0a6cc47f8d58015397c507e2883706a990dba0b997e4af96c399ece", func := "loop.example/g00991/laws.FnExactPlacesOk", spec := "fnExactPlacesOk", unfollowed := true, recurses := true, apart := false }
def FnExactPlacesOkSaid : Prop := fnExactPlacesOkRow.holds Try.pinned (OpenSpec.ofChange fnExactPlacesOkSpec)

/-- ITS FALSE NEIGHBOUR: 'it returns false'. Refute it at one input. -/
def fnExactPlacesOkWrong : ChangeSpec := { name := "fnExactPlacesOk", fn := fun _ => fun
  | [d1, d2] => { results := [.lit (.bool false)], args := [d1, d2] }
  | _ => none }
def FnExactPlacesOkWrongFalsely : Prop := fnExactPlacesOkRow.holds Try.pinned (OpenSpec.ofChange fnExactPlacesOkWrong)

/-- 'laws.FnKeys': WHATEVER THE INPUT: true; the input reads as it did. -/
def fnKeysSpec : ChangeSpec := { name := "fnKeys", fn := fun _ => fun
  | [d] => { results := [.lit (.bool true)], args := [d] }
  | _ => none }
def fnKeysRow : OpenClaim := { program := "ytcmbjkidgemdaaa", sum := "40b75488e0a6cc47f8d58015397c507e2883706a990dba0b997e4af96c399ece", func := "loop.example/g00991/laws.FnKeys", spec := "fnKeys", unfollowed := true, recurses := true, apart := false }
def FnKeysSaid : Prop := fnKeysRow.holds Try.pinned (OpenSpec.ofChange fnKeysSpec)

/-- ITS FALSE NEIGHBOUR: 'it returns false'. Refute it at one input. -/
def fnKeysWrong : ChangeSpec := { name := "fnKeys", fn := fun _ => fun
  | [d] => { results := [.lit (.bool false)], args := [d] }
  | _ => none }
def FnKeysWrongFalsely : Prop := fnKeysRow.holds Try.pinned (OpenSpec.ofChange fnKeysWrong)

/-- 'laws.FnExactCanMove': WHATEVER THE INPUT: true; the input reads as it did. -/
def fnExactCanMoveSpec : ChangeSpec := { name := "fnExactCanMove", fn := fun _ => fun
  | [d1, d2, d3, d4] => { results := [.lit (.bool true)], args := [d1, d2, d3, d4] }
  | _ => none }
def fnExactCanMoveRow : OpenClaim := { program := "ytcmbjkidgemdaaa", sum := "40b75488e0a6cc47f8d58015397c507e2883706a990dba0b997e4af96c399ece", func := "loop.example/g00991/laws.FnExactCanMove", spec := "fnExactCanMove", unfollowed := true, recurses := true, apart := false }
def FnExactCanMoveSaid : Prop := fnExactCanMoveRow.holds Try.pinned (OpenSpec.ofChange fnExactCanMoveSpec)

/-- ITS FALSE NEIGHBOUR: 'it returns false'. Refute it at one input. -/
def fnExactCanMoveWrong : ChangeSpec := { name := "fnExactCanMove", fn := fun _ => fun
  | [d1, d2, d3, d4] => { results := [.lit (.bool false)], args := [d1, d2, d3, d4] }
  | _ => none }
def FnExactCanMoveWrongFalsely : Prop := fnExactCanMoveRow.holds Try.pinned (OpenSpec.ofChange fnExactCanMoveWrong)

/-- 'laws.FnExactHallsWith': WHATEVER THE INPUT: true; the input reads as it did. -/
def fnExactHallsWithSpec : ChangeSpec := { name := "fnExactHallsWith", fn := fun _ => fun
  | [d1, d2, d3] => { results := [.lit (.bool true)], args := [d1, d2, d3] }
  | _ => none }
def fnExactHallsWithRow : OpenClaim := { program := "ytcmbjkidgemdaaa", sum := "40b75488e0a6cc47f8d58015397c507e2883706a990dba0b997e4af96c399ece", func := "loop.example/g00991/laws.FnExactHallsWith", spec := "fnExactHallsWith", unfollowed := true, recurses := true, apart := false }
def FnExactHallsWithSaid : Prop := fnExactHallsWithRow.holds Try.pinned (OpenSpec.ofChange fnExactHallsWithSpec)

/-- ITS FALSE NEIGHBOUR: 'it returns false'. Refute it at one input. -/
def fnExactHallsWithWrong : ChangeSpec := { name := "fnExactHallsWith", fn := fun _ => fun
  | [d1, d2, d3] => { results := [.lit (.bool false)], args := [d1, d2, d3] }
  | _ => none }
def FnExactHallsWithWrongFalsely : Prop := fnExactHallsWithRow.holds Try.pinned (OpenSpec.ofChange fnExactHallsWithWrong)

/-- 'laws.FnExactMasterRings': WHATEVER THE INPUT: true; the input reads as it did. -/
def fnExactMasterRingsSpec : ChangeSpec := { name := "fnExactMasterRings", fn := fun _ => fun
  | [d1, d2] => { results := [.lit (.bool true)], args := [d1, d2] }
  | _ => none }
def fnExactMasterRingsRow : OpenClaim := { program := "ytcmbjkidgemdaaa", sum := "40b75488e0a6cc47f8d58015397c507e2883706a990dba0b997e4af96c399ece", func := "loop.example/g00991/laws.FnExactMasterRings", spec := "fnExactMasterRings", unfollowed := true, recurses := true, apart := false }
def FnExactMasterRingsSaid : Prop := fnExactMasterRingsRow.holds Try.pinned (OpenSpec.ofChange fnExactMasterRingsSpec)

/-- ITS FALSE NEIGHBOUR: 'it returns false'. Refute it at one input. -/
def fnExactMasterRingsWrong : ChangeSpec := { name := "fnExactMasterRings", fn := fun _ => fun
  | [d1, d2] => { results := [.lit (.bool false)], args := [d1, d2] }
  | _ => none }
def FnExactMasterRingsWrongFalsely : Prop := fnExactMasterRingsRow.holds Try.pinned (OpenSpec.ofChange fnExactMasterRingsWrong)

/-- 'laws.FnExactMoveObject': WHATEVER THE INPUT: true; the input reads as it did. -/
def fnExactMoveObjectSpec : ChangeSpec := { name := "fnExactMoveObject", fn := fun _ => fun
  | [d1, d2, d3, d4] => { results := [.lit (.bool true)], args := [d1, d2, d3, d4] }
  | _ => none }
def fnExactMoveObjectRow : OpenClaim := { program := "ytcmbjkidgemdaaa", sum := "40b75488e0a6cc47f8d58015397c507e2883706a990dba0b997e4af96c399ece", func := "loop.example/g00991/laws.FnExactMoveObject", spec := "fnExactMoveObject", unfollowed := true, recurses := true, apart := false }
def FnExactMoveObjectSaid : Prop := fnExactMoveObjectRow.holds Try.pinned (OpenSpec.ofChange fnExactMoveObjectSpec)

/-- ITS FALSE NEIGHBOUR: 'it returns false'. Refute it at one input. -/
def fnExactMoveObjectWrong : ChangeSpec := { name := "fnExactMoveObject", fn := fun _ => fun
  | [d1, d2, d3, d4] => { results := [.lit (.bool false)], args := [d1, d2, d3, d4] }
  | _ => none }
def FnExactMoveObjectWrongFalsely : Prop := fnExactMoveObjectRow.holds Try.pinned (OpenSpec.ofChange fnExactMoveObjectWrong)

/-- 'laws.FnExactBestDispatch': WHATEVER THE INPUT: true; the input reads as it did. -/
def fnExactBestDispatchSpec : ChangeSpec := { name := "fnExactBestDispatch", fn := fun _ => fun
  | [d1, d2, d3] => { results := [.lit (.bool true)], args := [d1, d2, d3] }
  | _ => none }
def fnExactBestDispatchRow : OpenClaim := { program := "ytcmbjkidgemdaaa", sum := "40b75488e0a6cc47f8d58015397c507e2883706a990dba0b997e4af96c399ece", func := "loop.example/g00991/laws.FnExactBestDispatch", spec := "fnExactBestDispatch", unfollowed := true, recurses := true, apart := false }
def FnExactBestDispatchSaid : Prop := fnExactBestDispatchRow.holds Try.pinned (OpenSpec.ofChange fnExactBestDispatchSpec)

/-- ITS FALSE NEIGHBOUR: 'it returns false'. Refute it at one input. -/
def fnExactBestDispatchWrong : ChangeSpec := { name := "fnExactBestDispatch", fn := fun _ => fun
  | [d1, d2, d3] => { results := [.lit (.bool false)], args := [d1, d2, d3] }
  | _ => none }
def FnExactBestDispatchWrongFalsely : Prop := fnExactBestDispatchRow.holds Try.pinned (OpenSpec.ofChange fnExactBestDispatchWrong)

/-- 'laws.FnExactFewestKeepers': WHATEVER THE INPUT: true; the input reads as it did. -/
def fnExactFewestKeepersSpec : ChangeSpec := { name := "fnExactFewestKeepers", fn := fun _ => fun
  | [d1, d2] => { results := [.lit (.bool true)], args := [d1, d2] }
  | _ => none }
def fnExactFewestKeepersRow : OpenClaim := { program := "ytcmbjkidgemdaaa", sum := "40b75488e0a6cc47f8d58015397c507e2883706a990dba0b997e4af96c399ece", func := "loop.example/g00991/laws.FnExactFewestKeepers", spec := "fnExactFewestKeepers", unfollowed := true, recurses := true, apart := false }
def FnExactFewestKeepersSaid : Prop := fnExactFewestKeepersRow.holds Try.pinned (OpenSpec.ofChange fnExactFewestKeepersSpec)

/-- ITS FALSE NEIGHBOUR: 'it returns false'. Refute it at one input. -/
def fnExactFewestKeepersWrong : ChangeSpec := { name := "fnExactFewestKeepers", fn := fun _ => fun
  | [d1, d2] => { results := [.lit (.bool false)], args := [d1, d2] }
  | _ => none }
def FnExactFewestKeepersWrongFalsely : Prop := fnExactFewestKeepersRow.holds Try.pinned (OpenSpec.ofChange fnExactFewestKeepersWrong)

/-- 'laws.FnExactReplayMoves': WHATEVER THE INPUT: true; the input reads as it did. -/
def fnExactReplayMovesSpec : ChangeSpec := { name := "fnExactReplayMoves", fn := fun _ => fun
  | [d1, d2, d3] => { results := [.lit (.bool true)], args := [d1, d2, d3] }
  | _ => none }
def fnExactReplayMovesRow : OpenClaim := { program := "ytcmbjkidgemdaaa", sum := "40b75488e0a6cc47f8d58015397c507e2883706a990dba0b997e4af96c399ece", func := "loop.example/g00991/laws.FnExactReplayMoves", spec := "fnExactReplayMoves", unfollowed := true, recurses := true, apart := false }
def FnExactReplayMovesSaid : Prop := fnExactReplayMovesRow.holds Try.pinned (OpenSpec.ofChange fnExactReplayMovesSpec)

/-- ITS FALSE NEIGHBOUR: 'it returns false'. Refute it at one input. -/
def fnExactReplayMovesWrong : ChangeSpec := { name := "fnExactReplayMoves", fn := fun _ => fun
  | [d1, d2, d3] => { results := [.lit (.bool false)], args := [d1, d2, d3] }
  | _ => none }
def FnExactReplayMovesWrongFalsely : Prop := fnExactReplayMovesRow.holds Try.pinned (OpenSpec.ofChange fnExactReplayMovesWrong)

/-- 'laws.FnExactMuseumOk': WHATEVER THE INPUT: true; the input reads as it did. -/
def fnExactMuseumOkSpec : ChangeSpec := { name := "fnExactMuseumOk", fn := fun _ => fun
  | [d] => { results := [.lit (.bool true)], args := [d] }
  | _ => none }
def fnExactMuseumOkRow : OpenClaim := { program := "ytcmbjkidgemdaaa", sum := "40b75488e0a6cc47f8d58015397c507e2883706a990dba0b997e4af96c399ece", func := "loop.example/g00991/laws.FnExactMuseumOk", spec := "fnExactMuseumOk", unfollowed := true, recurses := true, apart := false }
def FnExactMuseumOkSaid : Prop := fnExactMuseumOkRow.holds Try.pinned (OpenSpec.ofChange fnExactMuseumOkSpec)

/-- ITS FALSE NEIGHBOUR: 'it returns false'. Refute it at one input. -/
def fnExactMuseumOkWrong : ChangeSpec := { name := "fnExactMuseumOk", fn := fun _ => fun
  | [d] => { results := [.lit (.bool false)], args := [d] }
  | _ => none }
def FnExactMuseumOkWrongFalsely : Prop := fnExactMuseumOkRow.holds Try.pinned (OpenSpec.ofChange fnExactMuseumOkWrong)

/- THE SECOND FORM. 'bulk': how many values and letters a reading holds, each counted each time it is reached (what is shared counts as often as it is met; a slice's spare places count too). A statement '..UptoSaid' is the law's where the arguments, and the package variables that the reading takes, are together of bulk at most 1048576: NARROWER than '..Said'. Prove '..Said' where nothing that the law and all that it calls make is longer than what came in: it says more and counts as full. Else prove '..UptoSaid'. A law counts once. -/
mutual
def uptoBulk {H : Type} : DataW H → Nat
  | .lit (.string bytes) => bytes.length + 1
  | .lit _ => 1
  | .nil => 1
  | .ptr d => uptoBulk d + 1
  | .slice elems spare => uptoBulkAll elems + uptoBulkAll spare + 1
  | .agg parts => uptoBulkAll parts + 1
  | .iface _ d => uptoBulk d + 1
  | .map entries => uptoBulkEntries entries + 1
  | .held _ => 1
def uptoBulkAll {H : Type} : List (DataW H) → Nat
  | [] => 0
  | d :: r => uptoBulk d + uptoBulkAll r
def uptoBulkEntries {H : Type} : List (Lit × DataW H) → Nat
  | [] => 0
  | x :: r => uptoBulkEntry x + uptoBulkEntries r
def uptoBulkEntry {H : Type} : Lit × DataW H → Nat
  | (.string bytes, d) => bytes.length + uptoBulk d + 1
  | (_, d) => uptoBulk d + 1
 end
def uptoSmall : (H : Type) → List (DataW H) → Bool := fun _ ds => decide (uptoBulkAll ds ≤ 1048576)
def OpenSpec.upto (s : _root_.Go.ChangeSpec) : _root_.Go.OpenSpec := { _root_.Go.OpenSpec.ofChange s with cond := some uptoSmall }

/-- 'laws.FnExactRingOk', WHERE WHAT IT READS IS OF BULK AT MOST 1048576: true; the input reads as it did. -/
def fnExactRingOkUptoRow : OpenClaim := { program := "ytcmbjkidgemdaaa", sum := "40b75488e0a6cc47f8d58015397c507e2883706a990dba0b997e4af96c399ece", func := "loop.example/g00991/laws.FnExactRingOk", spec := "fnExactRingOk", unfollowed := true, recurses := true, apart := false, narrowed := true }
def FnExactRingOkUptoSaid : Prop := fnExactRingOkUptoRow.holds Try.pinned (OpenSpec.upto fnExactRingOkSpec)

/-- 'laws.FnExactPlacesOk', WHERE WHAT IT READS IS OF BULK AT MOST 1048576: true; the input reads as it did. -/
def fnExactPlacesOkUptoRow : OpenClaim := { program := "ytcmbjkidgemdaaa", sum := "40b75488e0a6cc47f8d58015397c507e2883706a990dba0b997e4af96c399ece", func := "loop.example/g00991/laws.FnExactPlacesOk", spec := "fnExactPlacesOk", unfollowed := true, recurses := true, apart := false, narrowed := true }
def FnExactPlacesOkUptoSaid : Prop := fnExactPlacesOkUptoRow.holds Try.pinned (OpenSpec.upto fnExactPlacesOkSpec)

/-- 'laws.FnKeys', WHERE WHAT IT READS IS OF BULK AT MOST 1048576: true; the input reads as it did. -/
def fnKeysUptoRow : OpenClaim := { program := "ytcmbjkidgemdaaa", sum := "40b75488e0a6cc47f8d58015397c507e2883706a990dba0b997e4af96c399ece", func := "loop.example/g00991/laws.FnKeys", spec := "fnKeys", unfollowed := true, recurses := true, apart := false, narrowed := true }
def FnKeysUptoSaid : Prop := fnKeysUptoRow.holds Try.pinned (OpenSpec.upto fnKeysSpec)

/-- 'laws.FnExactCanMove', WHERE WHAT IT READS IS OF BULK AT MOST 1048576: true; the input reads as it did. -/
def fnExactCanMoveUptoRow : OpenClaim := { program := "ytcmbjkidgemdaaa", sum := "40b75488e0a6cc47f8d58015397c507e2883706a990dba0b997e4af96c399ece", func := "loop.example/g00991/laws.FnExactCanMove", spec := "fnExactCanMove", unfollowed := true, recurses := true, apart := false, narrowed := true }
def FnExactCanMoveUptoSaid : Prop := fnExactCanMoveUptoRow.holds Try.pinned (OpenSpec.upto fnExactCanMoveSpec)

/-- 'laws.FnExactHallsWith', WHERE WHAT IT READS IS OF BULK AT MOST 1048576: true; the input reads as it did. -/
def fnExactHallsWithUptoRow : OpenClaim := { program := "ytcmbjkidgemdaaa", sum := "40b75488e0a6cc47f8d58015397c507e2883706a990dba0b997e4af96c399ece", func := "loop.example/g00991/laws.FnExactHallsWith", spec := "fnExactHallsWith", unfollowed := true, recurses := true, apart := false, narrowed := true }
def FnExactHallsWithUptoSaid : Prop := fnExactHallsWithUptoRow.holds Try.pinned (OpenSpec.upto fnExactHallsWithSpec)

/-- 'laws.FnExactMasterRings', WHERE WHAT IT READS IS OF BULK AT MOST 1048576: true; the input reads as it did. -/
def fnExactMasterRingsUptoRow : OpenClaim := { program := "ytcmbjkidgemdaaa", sum := "40b75488e0a6cc47f8d58015397c507e2883706a990dba0b997e4af96c399ece", func := "loop.example/g00991/laws.FnExactMasterRings", spec := "fnExactMasterRings", unfollowed := true, recurses := true, apart := false, narrowed := true }
def FnExactMasterRingsUptoSaid : Prop := fnExactMasterRingsUptoRow.holds Try.pinned (OpenSpec.upto fnExactMasterRingsSpec)

/-- 'laws.FnExactMoveObject', WHERE WHAT IT READS IS OF BULK AT MOST 1048576: true; the input reads as it did. -/
def fnExactMoveObjectUptoRow : OpenClaim := { program := "ytcmbjkidgemdaaa", sum := "40b75488e0a6cc47f8d58015397c507e2883706a990dba0b997e4af96c399ece", func := "loop.example/g00991/laws.FnExactMoveObject", spec := "fnExactMoveObject", unfollowed := true, recurses := true, apart := false, narrowed := true }
def FnExactMoveObjectUptoSaid : Prop := fnExactMoveObjectUptoRow.holds Try.pinned (OpenSpec.upto fnExactMoveObjectSpec)

/-- 'laws.FnExactBestDispatch', WHERE WHAT IT READS IS OF BULK AT MOST 1048576: true; the input reads as it did. -/
def fnExactBestDispatchUptoRow : OpenClaim := { program := "ytcmbjkidgemdaaa", sum := "40b75488e0a6cc47f8d58015397c507e2883706a990dba0b997e4af96c399ece", func := "loop.example/g00991/laws.FnExactBestDispatch", spec := "fnExactBestDispatch", unfollowed := true, recurses := true, apart := false, narrowed := true }
def FnExactBestDispatchUptoSaid : Prop := fnExactBestDispatchUptoRow.holds Try.pinned (OpenSpec.upto fnExactBestDispatchSpec)

/-- 'laws.FnExactFewestKeepers', WHERE WHAT IT READS IS OF BULK AT MOST 1048576: true; the input reads as it did. -/
def fnExactFewestKeepersUptoRow : OpenClaim := { program := "ytcmbjkidgemdaaa", sum := "40b75488e0a6cc47f8d58015397c507e2883706a990dba0b997e4af96c399ece", func := "loop.example/g00991/laws.FnExactFewestKeepers", spec := "fnExactFewestKeepers", unfollowed := true, recurses := true, apart := false, narrowed := true }
def FnExactFewestKeepersUptoSaid : Prop := fnExactFewestKeepersUptoRow.holds Try.pinned (OpenSpec.upto fnExactFewestKeepersSpec)

/-- 'laws.FnExactReplayMoves', WHERE WHAT IT READS IS OF BULK AT MOST 1048576: true; the input reads as it did. -/
def fnExactReplayMovesUptoRow : OpenClaim := { program := "ytcmbjkidgemdaaa", sum := "40b75488e0a6cc47f8d58015397c507e2883706a990dba0b997e4af96c399ece", func := "loop.example/g00991/laws.FnExactReplayMoves", spec := "fnExactReplayMoves", unfollowed := true, recurses := true, apart := false, narrowed := true }
def FnExactReplayMovesUptoSaid : Prop := fnExactReplayMovesUptoRow.holds Try.pinned (OpenSpec.upto fnExactReplayMovesSpec)

/-- 'laws.FnExactMuseumOk', WHERE WHAT IT READS IS OF BULK AT MOST 1048576: true; the input reads as it did. -/
def fnExactMuseumOkUptoRow : OpenClaim := { program := "ytcmbjkidgemdaaa", sum := "40b75488e0a6cc47f8d58015397c507e2883706a990dba0b997e4af96c399ece", func := "loop.example/g00991/laws.FnExactMuseumOk", spec := "fnExactMuseumOk", unfollowed := true, recurses := true, apart := false, narrowed := true }
def FnExactMuseumOkUptoSaid : Prop := fnExactMuseumOkUptoRow.holds Try.pinned (OpenSpec.upto fnExactMuseumOkSpec)

end Rows
end Go.Proofs.Ytcmbjkidgemdaaa
