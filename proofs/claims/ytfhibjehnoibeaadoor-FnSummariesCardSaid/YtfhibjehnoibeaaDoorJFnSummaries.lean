/- The law FnSummaries: the law on summaries holds; no condition. -/
import Derived.Test.YtfhibjehnoibeaaDoorRows
import Derived.Test.YtfhibjehnoibeaaDoorTie
import Derived.Test.YtfhibjehnoibeaaDoorCards
import Derived.ProofKit
import Derived.LaidMore
import Derived.LaidOnce
import Derived.OpenShut
import Derived.SevenTiedAt
import Derived.Stop.Joined
import Derived.Test.YtfhibjehnoibeaaDoorZI
import Derived.Test.YtfhibjehnoibeaaDoorZS
namespace Go.Proofs.YtfhibjehnoibeaaDoor
set_option linter.unusedSimpArgs false
set_option linter.unusedVariables false
open Go.ChangeShapes Go.WideShapes Go.ChangeAt Go.RowKit
theorem byte_range {z : Int} (h : (Lit.int .u8 z).wf = true) : 0 ≤ z ∧ z ≤ 255 := by
  simp only [Lit.wf, Bool.and_eq_true, decide_eq_true_eq] at h
  have h1 : IntKind.u8.min = 0 := by rfl
  have h2 : IntKind.u8.max = 255 := by rfl
  rw [h1, h2] at h
  exact h
theorem opens_byteU : Opens Tryd.prog 5 bencU := by
  intro H enc w n cs x h
  obtain ⟨z, hz, _, hw⟩ := DataW.trod_int Tryd.underlying5 h
  have h2 : 0 ≤ z ∧ z ≤ 255 := byte_range hw
  refine ⟨UInt8.ofNat z.toNat, ?_⟩
  rw [hz]
  unfold bencU
  rw [UInt8.toNat_ofNat', Nat.mod_eq_of_lt (by omega)]
  rw [Int.toNat_of_nonneg h2.1]
theorem Try_own_FnSummaries : ownKnob Tryd.prog.godebug = none := by kernel_rfl
theorem Try_laidOut_FnSummaries : laidOutB Tryd.prog = true := by kernel_rfl
set_option maxRecDepth 100000 in
theorem contract_FnSummaries (H : Type) (enc : TypeId × Value → H) (W : World) (base : Nat) (args : Array Value) (ds gs : List (DataW H)) (before : List MemPlace)
    (hval : ∀ (j : Nat) t v, Tryd.f5.params[j]? = some t → args[j]? = some v → Value.okWide Tryd.prog W .any base t v)
    (hW : DataW.Whole enc Tryd.prog Tryd.f5.params.toList Rows.fnSummariesSpec.vars false W args.toList ds gs before) (hL : laidMetH Tryd.prog Rows.fnSummariesRow.laid W) :
    Calls Tryd.prog 5 args W fun e W' => ∃ v, e = .returned v ∧ Rows.fnSummariesSpec.post enc Tryd.prog Tryd.f5 false true false false W args v W' := by
  have hW' := hW
  obtain ⟨p, q, hA0, hV, rfl, hfz, hnd⟩ := hW
  have hA : DataW.TrodAll enc Tryd.prog W 0 (fun _ => true) true Tryd.f5.params.toList args.toList ds p := hA0
  rw [Tryd.params5] at hA hval
  obtain ⟨v0, vs0, d0, ds0, p0, q0, hargs, rfl, rfl, h0, r0⟩ := trodAll_cons hA
  obtain ⟨rfl, rfl, rfl⟩ := trodAll_nil r0
  obtain rfl : args = #[v0] := by cases args; simp_all
  obtain ⟨rfl, rfl⟩ := trodVars_none hV
  obtain ⟨A0, n0, c0, a0, rfl, hc0, hr0⟩ := open_slice_arg (en := bencU) Tryd.underlying22 (m := 1) (by kernel_rfl) (fun _ => rfl) (by omega) opens_byteU (hval 0 22 v0 rfl rfl) h0
  refine (law_FnSummaries A0 n0 c0 a0 W hr0 (Lib.hid (tab_laid hL))).mono fun e W' ⟨he, hb⟩ => ?_
  subst he
  refine ⟨_, rfl, law_post Try_laidOut_FnSummaries ?_ Tryd.underlying4 rfl rfl hW' rfl hb⟩
  rw [Tryd.params5]
  intro t ht
  obtain rfl : t = 22 := by simpa using ht
  exact ⟨by kernel_rfl, of_decide_eq_true (by kernel_rfl)⟩
theorem doormet_FnSummaries (os : Os) (args : Array Value) : laidMetH Tryd.prog Rows.fnSummariesRow.laid ((World.doorLaid Tryd.prog 600 os).forCall (fun _ _ => 0) ⟨#[], args, []⟩).memory :=
  laidMetH_of_parts3 (fuel := 70) (laidMet_of_run' 70 (by kernel_rfl) (by kernel_rfl)) (by kernel_rfl) (by kernel_rfl)
set_option maxRecDepth 100000 in
theorem lifted_FnSummaries (os : Os) (started : os.Started) (H : Type) (enc : TypeId × Value → H) :
    ReturnsInHanded {} Tryd.checked os 5 .any (fun w args => (Rows.fnSummariesSpec.pre enc Tryd.prog Tryd.f5 [] false w args ∧ laidMetH Tryd.prog Rows.fnSummariesRow.laid w) ∧ sizedMet enc Tryd.prog Tryd.f5 (OpenSpec.ofChange Rows.fnSummariesSpec) false w args)
      (Rows.fnSummariesSpec.post enc Tryd.prog Tryd.f5 false true false false) := by
  refine returnsInHanded_of_change_and (C := Tryd.checked) (X := fun w _ => laidMetH Tryd.prog Rows.fnSummariesRow.laid w) (fun _ _ _ hh h => h.of_heap hh) Try_own_FnSummaries started (by kernel_rfl) Tryd.func5
    (ChangeSpec.witness_shaped (enc := enc) (C := Tryd.checked) (os := os) (X := fun w _ => laidMetH Tryd.prog Rows.fnSummariesRow.laid w) false (World.doorLaid Tryd.prog 600 os) #[.slice none 0 0] 8 rfl (World.shaped_of_RefB (by kernel_rfl) (by kernel_rfl)) (by kernel_rfl) (by kernel_rfl) (by kernel_rfl) (doormet_FnSummaries os _)) ?_
  intro W base args ds gs before hval hW _ _ hL _
  exact contract_FnSummaries H enc W base args ds gs before hval hW hL
set_option maxRecDepth 100000 in
set_option maxHeartbeats 8000000 in
theorem card_closed_FnSummaries : joinedFacts Tryd.pinned.checked.prog 5 Tryd.f5 Rows.fnSummariesSpec Rows.fnSummariesRow = true := by
  unfold joinedFacts
  simp only [Bool.and_eq_true]
  repeat' apply And.intro
  all_goals as_aux_lemma => kernel_rfl
theorem card_func_FnSummaries : Tryd.pinned.checked.prog.funcNamed "loop.example/g00991/laws.FnSummaries" = some 5 := by kernel_rfl
theorem row_FnSummaries : Rows.FnSummariesSaid :=
  OpenClaim.holds_of_wide 5 Tryd.f5 rfl rfl rfl rfl rfl rfl rfl ⟨rfl, rfl, rfl, rfl, rfl⟩ rfl rfl rfl rfl rfl card_func_FnSummaries Tryd.func5 card_closed_FnSummaries
    (of_decide_eq_true (by as_aux_lemma => kernel_rfl)) (by unfold Func.isWrapper; first | (rw [if_pos (by decide +kernel)]; as_aux_lemma => kernel_rfl) | (rw [if_neg (by decide +kernel)]; exact ⟨rfl, rfl⟩))
    (fun os started H enc _ => lifted_FnSummaries os started H enc)
theorem card_goes_FnSummaries : false = Rows.fnSummariesRow.goesBy Tryd.pinned.checked.prog := by kernel_rfl
theorem card_wf_FnSummaries : Rows.fnSummariesRow.wfByText (OpenSpec.ofChange Rows.fnSummariesSpec) = true := by kernel_rfl
theorem card_looks_FnSummaries : false = Tryd.pinned.checked.prog.looks [] := by kernel_rfl
theorem card_main_FnSummaries : Tryd.pinned.checked.prog.mainIs = some ((true, "24a956c985de4898a6c558940c578e7678d3aa9de54029a343c05345bc214521").1, (true, "24a956c985de4898a6c558940c578e7678d3aa9de54029a343c05345bc214521").2.toList) := by kernel_rfl
theorem card_stand_FnSummaries : ([22].all fun u => !Tryd.pinned.checked.prog.wantsStandIn u) = true := by kernel_rfl
theorem holds_FnSummaries : Rows.FnSummariesCardSaid :=
  Claim7.holds_tied_plain_at .later [] [.data, .data, .data] true (true, "24a956c985de4898a6c558940c578e7678d3aa9de54029a343c05345bc214521") false
    row_FnSummaries (fun _ h => by cases h) card_wf_FnSummaries (fun _ h => by cases h) fnSummaries_row_tie rfl ⟨rfl, rfl⟩ card_main_FnSummaries rfl
    (fun f fn hf hfn => by
      obtain rfl : f = 5 := Option.some.inj (card_func_FnSummaries.symm.trans hf) |>.symm
      obtain rfl : fn = Tryd.f5 := (Option.some.inj (Tryd.func5.symm.trans hfn)).symm
      exact ⟨card_looks_FnSummaries, fun j t ht => by
        rw [Tryd.params5] at ht
        have hm : t ∈ [22] := by simpa using Array.mem_of_getElem? ht
        exact (show Tryd.pinned.checked.prog.wantsStandIn t = false by simpa using List.all_eq_true.1 card_stand_FnSummaries t hm)⟩)
    card_goes_FnSummaries
end Go.Proofs.YtfhibjehnoibeaaDoor
