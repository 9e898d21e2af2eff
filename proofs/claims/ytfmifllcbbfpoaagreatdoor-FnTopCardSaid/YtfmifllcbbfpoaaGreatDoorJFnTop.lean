/- The law FnTop: the law on histories and their records holds; no condition. -/
import Derived.Test.YtfmifllcbbfpoaaGreatDoorRows
import Derived.Test.YtfmifllcbbfpoaaGreatDoorTie
import Derived.Test.YtfmifllcbbfpoaaGreatDoorCards
import Derived.ProofKit
import Derived.LaidMore
import Derived.LaidOnce
import Derived.OpenShut
import Derived.SevenTiedAt
import Derived.Stop.Joined
import Derived.Test.YtfmifllcbbfpoaaGreatDoorZM
import Derived.Test.YtfmifllcbbfpoaaGreatDoorZAF
namespace Go.Proofs.YtfmifllcbbfpoaaGreatDoor
set_option linter.unusedSimpArgs false
set_option linter.unusedVariables false
open Go.ChangeShapes Go.WideShapes Go.ChangeAt Go.RowKit
theorem byte_range {z : Int} (h : (Lit.int .u8 z).wf = true) : 0 ≤ z ∧ z ≤ 255 := by
  simp only [Lit.wf, Bool.and_eq_true, decide_eq_true_eq] at h
  have h1 : IntKind.u8.min = 0 := by rfl
  have h2 : IntKind.u8.max = 255 := by rfl
  rw [h1, h2] at h
  exact h
theorem opens_byteU : Opens Tryz.prog 5 bencU := by
  intro H enc w n cs x h
  obtain ⟨z, hz, _, hw⟩ := DataW.trod_int Tryz.underlying5 h
  have h2 : 0 ≤ z ∧ z ≤ 255 := byte_range hw
  refine ⟨UInt8.ofNat z.toNat, ?_⟩
  rw [hz]
  unfold bencU
  rw [UInt8.toNat_ofNat', Nat.mod_eq_of_lt (by omega)]
  rw [Int.toNat_of_nonneg h2.1]
theorem Try_own_FnTop : ownKnob Tryz.prog.godebug = none := by kernel_rfl
theorem Try_laidOut_FnTop : laidOutB Tryz.prog = true := by kernel_rfl
set_option maxRecDepth 100000 in
theorem contract_FnTop (H : Type) (enc : TypeId × Value → H) (W : World) (base : Nat) (args : Array Value) (ds gs : List (DataW H)) (before : List MemPlace)
    (hval : ∀ (j : Nat) t v, Tryz.f3.params[j]? = some t → args[j]? = some v → Value.okWide Tryz.prog W .any base t v)
    (hW : DataW.Whole enc Tryz.prog Tryz.f3.params.toList Rows.fnTopSpec.vars false W args.toList ds gs before) (hL : laidMetH Tryz.prog Rows.fnTopRow.laid W) (hS : W.ShapedOpen Tryz.prog) :
    Calls Tryz.prog 3 args W fun e W' => ∃ v, e = .returned v ∧ Rows.fnTopSpec.post enc Tryz.prog Tryz.f3 false true false false W args v W' := by
  have hW' := hW
  obtain ⟨p, q, hA0, hV, rfl, hfz, hnd⟩ := hW
  have hA : DataW.TrodAll enc Tryz.prog W 0 (fun _ => true) true Tryz.f3.params.toList args.toList ds p := hA0
  rw [Tryz.params3] at hA hval
  obtain ⟨v0, vs0, d0, ds0, p0, q0, hargs, rfl, rfl, h0, r0⟩ := trodAll_cons hA
  obtain ⟨rfl, rfl, rfl⟩ := trodAll_nil r0
  obtain rfl : args = #[v0] := by cases args; simp_all
  obtain ⟨rfl, rfl⟩ := trodVars_none hV
  obtain ⟨A0, n0, c0, a0, rfl, hc0, hr0⟩ := open_slice_arg (en := bencU) Tryz.underlying22 (m := 1) (by kernel_rfl) (fun _ => rfl) (by omega) opens_byteU (hval 0 22 v0 rfl rfl) h0
  refine (law_FnTop A0 n0 c0 a0 W hr0 (Lib.hid (max_of hS))).mono fun e W' ⟨he, hb⟩ => ?_
  subst he
  refine ⟨_, rfl, law_post Try_laidOut_FnTop ?_ Tryz.underlying4 rfl rfl hW' rfl hb⟩
  rw [Tryz.params3]
  intro t ht
  obtain rfl : t = 22 := by simpa using ht
  exact ⟨by kernel_rfl, of_decide_eq_true (by kernel_rfl)⟩
theorem doormet_FnTop (os : Os) (args : Array Value) : laidMetH Tryz.prog Rows.fnTopRow.laid ((laidW Tryz.prog os Rows.fnTopRow.laid).forCall (fun _ _ => 0) ⟨#[], args, []⟩).memory :=
  laidMetH_of_parts3 (fuel := 300) (laidMet_of_run' 300 (by kernel_rfl) (by kernel_rfl)) (by kernel_rfl) (by kernel_rfl)
set_option maxRecDepth 100000 in
theorem lifted_FnTop (os : Os) (started : os.Started) (H : Type) (enc : TypeId × Value → H) :
    ReturnsInHanded {} Tryz.checked os 3 .any (fun w args => (Rows.fnTopSpec.pre enc Tryz.prog Tryz.f3 [] false w args ∧ laidMetH Tryz.prog Rows.fnTopRow.laid w) ∧ sizedMet enc Tryz.prog Tryz.f3 (OpenSpec.ofChange Rows.fnTopSpec) false w args)
      (Rows.fnTopSpec.post enc Tryz.prog Tryz.f3 false true false false) := by
  refine handed_and_shaped (C := Tryz.checked) (X := fun w _ => laidMetH Tryz.prog Rows.fnTopRow.laid w) (fun _ _ _ hh h => h.of_heap hh) Try_own_FnTop started (by kernel_rfl) Tryz.func3
    (ChangeSpec.witness_shaped (enc := enc) (C := Tryz.checked) (os := os) (X := fun w _ => laidMetH Tryz.prog Rows.fnTopRow.laid w) false (laidW Tryz.prog os Rows.fnTopRow.laid) #[.slice none 0 0] 8 rfl (World.shaped_of_RefB (by kernel_rfl) (by kernel_rfl)) (by kernel_rfl) (by kernel_rfl) (by kernel_rfl) (doormet_FnTop os _)) ?_
  intro W base args ds gs before hval hW _ _ hL hS _
  exact contract_FnTop H enc W base args ds gs before hval hW hL hS
set_option maxRecDepth 100000 in
set_option maxHeartbeats 8000000 in
theorem card_closed_FnTop : joinedFacts Tryz.pinned.checked.prog 3 Tryz.f3 Rows.fnTopSpec Rows.fnTopRow = true := by
  unfold joinedFacts
  simp only [Bool.and_eq_true]
  repeat' apply And.intro
  all_goals as_aux_lemma => kernel_rfl
theorem card_func_FnTop : Tryz.pinned.checked.prog.funcNamed "loop.example/g00991/laws.FnTop" = some 3 := by kernel_rfl
theorem row_FnTop : Rows.FnTopSaid :=
  OpenClaim.holds_of_wide 3 Tryz.f3 rfl rfl rfl rfl rfl rfl rfl ⟨rfl, rfl, rfl, rfl, rfl⟩ rfl rfl rfl rfl rfl card_func_FnTop Tryz.func3 card_closed_FnTop
    (of_decide_eq_true (by as_aux_lemma => kernel_rfl)) (by unfold Func.isWrapper; first | (rw [if_pos (by decide +kernel)]; as_aux_lemma => kernel_rfl) | (rw [if_neg (by decide +kernel)]; exact ⟨rfl, rfl⟩))
    (fun os started H enc _ => lifted_FnTop os started H enc)
theorem card_goes_FnTop : false = Rows.fnTopRow.goesBy Tryz.pinned.checked.prog := by kernel_rfl
theorem card_wf_FnTop : Rows.fnTopRow.wfByText (OpenSpec.ofChange Rows.fnTopSpec) = true := by kernel_rfl
theorem card_looks_FnTop : false = Tryz.pinned.checked.prog.looks [] := by kernel_rfl
theorem card_main_FnTop : Tryz.pinned.checked.prog.mainIs = some ((true, "cf5f88859fc65df3b9a3c73e44174c1e4454631e3ea11393b0789fd3be752ff6").1, (true, "cf5f88859fc65df3b9a3c73e44174c1e4454631e3ea11393b0789fd3be752ff6").2.toList) := by kernel_rfl
theorem card_stand_FnTop : ([22].all fun u => !Tryz.pinned.checked.prog.wantsStandIn u) = true := by kernel_rfl
theorem holds_FnTop : Rows.FnTopCardSaid :=
  Claim7.holds_tied_plain_at .later [] [.data, .data, .data, .data, .pinned] true (true, "cf5f88859fc65df3b9a3c73e44174c1e4454631e3ea11393b0789fd3be752ff6") false
    row_FnTop (fun _ h => by cases h) card_wf_FnTop (fun _ h => by cases h) fnTop_row_tie rfl ⟨rfl, rfl⟩ card_main_FnTop rfl
    (fun f fn hf hfn => by
      obtain rfl : f = 3 := Option.some.inj (card_func_FnTop.symm.trans hf) |>.symm
      obtain rfl : fn = Tryz.f3 := (Option.some.inj (Tryz.func3.symm.trans hfn)).symm
      exact ⟨card_looks_FnTop, fun j t ht => by
        rw [Tryz.params3] at ht
        have hm : t ∈ [22] := by simpa using Array.mem_of_getElem? ht
        exact (show Tryz.pinned.checked.prog.wantsStandIn t = false by simpa using List.all_eq_true.1 card_stand_FnTop t hm)⟩)
    card_goes_FnTop
end Go.Proofs.YtfmifllcbbfpoaaGreatDoor
