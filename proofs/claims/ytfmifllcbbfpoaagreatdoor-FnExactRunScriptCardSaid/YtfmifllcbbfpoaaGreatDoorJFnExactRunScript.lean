/- The law FnExactRunScript: the program's RunScript returns what the reference's returns, for every argument; no condition. -/
import Derived.Test.YtfmifllcbbfpoaaGreatDoorRows
import Derived.Test.YtfmifllcbbfpoaaGreatDoorTie
import Derived.Test.YtfmifllcbbfpoaaGreatDoorCards
import Derived.ProofKit
import Derived.LaidMore
import Derived.LaidOnce
import Derived.OpenShut
import Derived.SevenTiedAt
import Derived.Stop.Joined
import Derived.Test.YtfmifllcbbfpoaaGreatDoorZM
import Derived.Test.YtfmifllcbbfpoaaGreatDoorZO
import Derived.Test.YtfmifllcbbfpoaaGreatDoorZP
namespace Go.Proofs.YtfmifllcbbfpoaaGreatDoor
set_option linter.unusedSimpArgs false
set_option linter.unusedVariables false
open Go.ChangeShapes Go.WideShapes Go.ChangeAt Go.RowKit

theorem Try_own_FnExactRunScript : ownKnob Tryz.prog.godebug = none := by kernel_rfl
theorem Try_laidOut_FnExactRunScript : laidOutB Tryz.prog = true := by kernel_rfl
set_option maxRecDepth 100000 in
theorem contract_FnExactRunScript (H : Type) (enc : TypeId × Value → H) (W : World) (base : Nat) (args : Array Value) (ds gs : List (DataW H)) (before : List MemPlace)
    (hval : ∀ (j : Nat) t v, Tryz.f8.params[j]? = some t → args[j]? = some v → Value.okWide Tryz.prog W .any base t v)
    (hW : DataW.Whole enc Tryz.prog Tryz.f8.params.toList Rows.fnExactRunScriptSpec.vars false W args.toList ds gs before) (hL : laidMetH Tryz.prog Rows.fnExactRunScriptRow.laid W) (hS : W.ShapedOpen Tryz.prog) :
    Calls Tryz.prog 8 args W fun e W' => ∃ v, e = .returned v ∧ Rows.fnExactRunScriptSpec.post enc Tryz.prog Tryz.f8 false true false false W args v W' := by
  have hW' := hW
  obtain ⟨p, q, hA0, hV, rfl, hfz, hnd⟩ := hW
  have hA : DataW.TrodAll enc Tryz.prog W 0 (fun _ => true) true Tryz.f8.params.toList args.toList ds p := hA0
  rw [Tryz.params8] at hA hval
  obtain ⟨v0, vs0, d0, ds0, p0, q0, hargs, rfl, rfl, h0, r0⟩ := trodAll_cons hA
  obtain ⟨rfl, rfl, rfl⟩ := trodAll_nil r0
  obtain rfl : args = #[v0] := by cases args; simp_all
  obtain ⟨rfl, rfl⟩ := trodVars_none hV
  obtain ⟨a0, rfl, _, _, wf0⟩ := Go.ChangeMaps.open_string Tryz.underlying9 (hval 0 9 v0 rfl rfl) h0
  refine (law_RunScript a0 W (Lib.hid (tab_laid5 hL)) (Lib.hid (max_of hS))).mono fun e W' ⟨he, hb⟩ => ?_
  subst he
  refine ⟨_, rfl, law_post Try_laidOut_FnExactRunScript ?_ Tryz.underlying4 rfl rfl hW' rfl hb⟩
  rw [Tryz.params8]
  intro t ht
  obtain rfl : t = 9 := by simpa using ht
  exact ⟨by kernel_rfl, of_decide_eq_true (by kernel_rfl)⟩
theorem doormet_FnExactRunScript (os : Os) (args : Array Value) : laidMetH Tryz.prog Rows.fnExactRunScriptRow.laid ((laidW Tryz.prog os Rows.fnExactRunScriptRow.laid).forCall (fun _ _ => 0) ⟨#[], args, []⟩).memory :=
  laidMetH_of_parts3 (fuel := 300) (laidMet_of_run' 300 (by kernel_rfl) (by kernel_rfl)) (by kernel_rfl) (by kernel_rfl)
set_option maxRecDepth 100000 in
theorem lifted_FnExactRunScript (os : Os) (started : os.Started) (H : Type) (enc : TypeId × Value → H) :
    ReturnsInHanded {} Tryz.checked os 8 .any (fun w args => (Rows.fnExactRunScriptSpec.pre enc Tryz.prog Tryz.f8 [] false w args ∧ laidMetH Tryz.prog Rows.fnExactRunScriptRow.laid w) ∧ sizedMet enc Tryz.prog Tryz.f8 (OpenSpec.ofChange Rows.fnExactRunScriptSpec) false w args)
      (Rows.fnExactRunScriptSpec.post enc Tryz.prog Tryz.f8 false true false false) := by
  refine handed_and_shaped (C := Tryz.checked) (X := fun w _ => laidMetH Tryz.prog Rows.fnExactRunScriptRow.laid w) (fun _ _ _ hh h => h.of_heap hh) Try_own_FnExactRunScript started (by kernel_rfl) Tryz.func8
    (ChangeSpec.witness_shaped (enc := enc) (C := Tryz.checked) (os := os) (X := fun w _ => laidMetH Tryz.prog Rows.fnExactRunScriptRow.laid w) false (laidW Tryz.prog os Rows.fnExactRunScriptRow.laid) #[.string ByteArray.empty] 8 rfl (World.shaped_of_RefB (by kernel_rfl) (by kernel_rfl)) (by kernel_rfl) (by kernel_rfl) (by kernel_rfl) (doormet_FnExactRunScript os _)) ?_
  intro W base args ds gs before hval hW _ _ hL hS _
  exact contract_FnExactRunScript H enc W base args ds gs before hval hW hL hS
set_option maxRecDepth 100000 in
set_option maxHeartbeats 8000000 in
theorem card_closed_FnExactRunScript : joinedFacts Tryz.pinned.checked.prog 8 Tryz.f8 Rows.fnExactRunScriptSpec Rows.fnExactRunScriptRow = true := by
  unfold joinedFacts
  simp only [Bool.and_eq_true]
  repeat' apply And.intro
  all_goals as_aux_lemma => kernel_rfl
theorem card_func_FnExactRunScript : Tryz.pinned.checked.prog.funcNamed "loop.example/g00991/laws.FnExactRunScript" = some 8 := by kernel_rfl
theorem row_FnExactRunScript : Rows.FnExactRunScriptSaid :=
  OpenClaim.holds_of_wide 8 Tryz.f8 rfl rfl rfl rfl rfl rfl rfl ⟨rfl, rfl, rfl, rfl, rfl⟩ rfl rfl rfl rfl rfl card_func_FnExactRunScript Tryz.func8 card_closed_FnExactRunScript
    (of_decide_eq_true (by as_aux_lemma => kernel_rfl)) (by unfold Func.isWrapper; first | (rw [if_pos (by decide +kernel)]; as_aux_lemma => kernel_rfl) | (rw [if_neg (by decide +kernel)]; exact ⟨rfl, rfl⟩))
    (fun os started H enc _ => lifted_FnExactRunScript os started H enc)
theorem card_goes_FnExactRunScript : false = Rows.fnExactRunScriptRow.goesBy Tryz.pinned.checked.prog := by kernel_rfl
theorem card_wf_FnExactRunScript : Rows.fnExactRunScriptRow.wfByText (OpenSpec.ofChange Rows.fnExactRunScriptSpec) = true := by kernel_rfl
theorem card_looks_FnExactRunScript : false = Tryz.pinned.checked.prog.looks [] := by kernel_rfl
theorem card_main_FnExactRunScript : Tryz.pinned.checked.prog.mainIs = some ((true, "cf5f88859fc65df3b9a3c73e44174c1e4454631e3ea11393b0789fd3be752ff6").1, (true, "cf5f88859fc65df3b9a3c73e44174c1e4454631e3ea11393b0789fd3be752ff6").2.toList) := by kernel_rfl
theorem card_stand_FnExactRunScript : ([9].all fun u => !Tryz.pinned.checked.prog.wantsStandIn u) = true := by kernel_rfl
theorem holds_FnExactRunScript : Rows.FnExactRunScriptCardSaid :=
  Claim7.holds_tied_plain_at .later [] [.data, .data, .data, .data, .pinned] true (true, "cf5f88859fc65df3b9a3c73e44174c1e4454631e3ea11393b0789fd3be752ff6") false
    row_FnExactRunScript (fun _ h => by cases h) card_wf_FnExactRunScript (fun _ h => by cases h) fnExactRunScript_row_tie rfl ⟨rfl, rfl⟩ card_main_FnExactRunScript rfl
    (fun f fn hf hfn => by
      obtain rfl : f = 8 := Option.some.inj (card_func_FnExactRunScript.symm.trans hf) |>.symm
      obtain rfl : fn = Tryz.f8 := (Option.some.inj (Tryz.func8.symm.trans hfn)).symm
      exact ⟨card_looks_FnExactRunScript, fun j t ht => by
        rw [Tryz.params8] at ht
        have hm : t ∈ [9] := by simpa using Array.mem_of_getElem? ht
        exact (show Tryz.pinned.checked.prog.wantsStandIn t = false by simpa using List.all_eq_true.1 card_stand_FnExactRunScript t hm)⟩)
    card_goes_FnExactRunScript
end Go.Proofs.YtfmifllcbbfpoaaGreatDoor
