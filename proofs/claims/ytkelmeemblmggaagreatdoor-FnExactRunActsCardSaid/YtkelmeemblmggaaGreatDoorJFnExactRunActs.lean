/- The law FnExactRunActs: the program's RunActs returns what the reference's returns, for every argument; no condition. -/
import Derived.Test.YtkelmeemblmggaaGreatDoorRows
import Derived.Test.YtkelmeemblmggaaGreatDoorTie
import Derived.Test.YtkelmeemblmggaaGreatDoorCards
import Derived.ProofKit
import Derived.LaidMore
import Derived.LaidOnce
import Derived.OpenShut
import Derived.SevenTiedAt
import Derived.Stop.Joined
import Derived.Test.YtkelmeemblmggaaGreatDoorZQ
import Derived.Test.YtkelmeemblmggaaGreatDoorZZ
namespace Go.Proofs.YtkelmeemblmggaaGreatDoor
set_option linter.unusedSimpArgs false
set_option linter.unusedVariables false
open Go.ChangeShapes Go.WideShapes Go.ChangeAt Go.RowKit
theorem opens_Door : Opens Tryz.prog 165 GDoor.enc := by
  intro H enc w n cs x h
  obtain ⟨hl, hf⟩ := open_fields Tryz.underlying165 (by kernel_rfl) (by kernel_rfl) h
  obtain ⟨v0, n0, y0, e0, r0⟩ := hf 0 _ rfl
  obtain ⟨z0, rfl, _⟩ := int_of_trod Tryz.underlying3 r0
  obtain ⟨v1, n1, y1, e1, r1⟩ := hf 1 _ rfl
  obtain ⟨z1, rfl, _⟩ := int_of_trod Tryz.underlying3 r1
  exact ⟨⟨z0, z1⟩, by
    apply List.ext_getElem? ; intro i
    have hs : cs.length = 2 := hl
    match i with
    | 0 => rw [e0]; rfl
    | 1 => rw [e1]; rfl
    | i + 2 => rw [List.getElem?_eq_none (by omega), List.getElem?_eq_none (by simp [GDoor.enc])]⟩
theorem opens_Act : Opens Tryz.prog 88 GAct.enc := by
  intro H enc w n cs x h
  obtain ⟨hl, hf⟩ := open_fields Tryz.underlying88 (by kernel_rfl) (by kernel_rfl) h
  obtain ⟨v0, n0, y0, e0, r0⟩ := hf 0 _ rfl
  obtain ⟨z0, rfl, _⟩ := int_of_trod Tryz.underlying3 r0
  obtain ⟨v1, n1, y1, e1, r1⟩ := hf 1 _ rfl
  obtain ⟨z1, rfl, _⟩ := int_of_trod Tryz.underlying3 r1
  obtain ⟨v2, n2, y2, e2, r2⟩ := hf 2 _ rfl
  obtain ⟨z2, rfl, _⟩ := int_of_trod Tryz.underlying3 r2
  obtain ⟨v3, n3, y3, e3, r3⟩ := hf 3 _ rfl
  obtain ⟨z3, rfl, _⟩ := int_of_trod Tryz.underlying3 r3
  obtain ⟨v4, n4, y4, e4, r4⟩ := hf 4 _ rfl
  obtain ⟨z4, rfl, _⟩ := int_of_trod Tryz.underlying3 r4
  exact ⟨⟨z0, z1, z2, z3, z4⟩, by
    apply List.ext_getElem? ; intro i
    have hs : cs.length = 5 := hl
    match i with
    | 0 => rw [e0]; rfl
    | 1 => rw [e1]; rfl
    | 2 => rw [e2]; rfl
    | 3 => rw [e3]; rfl
    | 4 => rw [e4]; rfl
    | i + 5 => rw [List.getElem?_eq_none (by omega), List.getElem?_eq_none (by simp [GAct.enc])]⟩
theorem opens_int : Opens Tryz.prog 3 ienc := by
  intro H enc w n cs x h
  obtain ⟨z, hz, _⟩ := DataW.trod_int Tryz.underlying3 h
  exact ⟨z, hz⟩
set_option maxRecDepth 100000 in
theorem open_museum {H : Type} {enc : TypeId × Value → H} {W : World} {r : Reach} {b0 : Nat} {v : Value} {d : DataW H} {p : List MemPlace} (hv : Value.okWide Tryz.prog W r b0 49 v) (h : DataW.Trod enc Tryz.prog W 0 (fun _ => true) true 49 v d p) :
    ∃ (x : MV) (m : GMuseum), v = x.val ∧ MRd W x m := by
  obtain ⟨cs, rfl, _⟩ := okWide_struct Tryz.underlying49 hv
  obtain ⟨fuel, hf⟩ := h
  have hf' : DataW.trod enc Tryz.prog W 0 (fun _ => true) true fuel 49 cs.toList = some (d, p) := by simpa [Value.cells] using hf
  obtain ⟨ys, n', hn', hy, hlen, hyl, hg⟩ := DataW.trod_struct Tryz.underlying49 hf'
  have h7 : cs.toList.length = 7 := hlen.trans (by kernel_rfl)
  have hys : ys.length = 6 := hyl
  obtain ⟨k0, k1, k2, k3, k4, k5, k6, hcs⟩ : ∃ k0 k1 k2 k3 k4 k5 k6, cs.toList = [k0, k1, k2, k3, k4, k5, k6] := by
    match cs.toList, h7 with
    | [a, b, c, d, e, f, g], _ => exact ⟨a, b, c, d, e, f, g, rfl⟩
  rw [hcs] at hg
  have at_ : ∀ j, j < 6 → ∃ y, ys[j]? = some y := fun j hj => ⟨ys[j]'(by omega), List.getElem?_eq_getElem (by omega)⟩
  have cH : Tryz.prog.cellsOf 46 = 2 := by kernel_rfl
  have cI : Tryz.prog.cellsOf 3 = 1 := by kernel_rfl
  have cS : Tryz.prog.cellsOf 27 = 1 := by kernel_rfl
  have cE : Tryz.prog.cellsOf 47 = 1 := by kernel_rfl
  obtain ⟨y0, e0⟩ := at_ 0 (by omega)
  obtain ⟨y1, e1⟩ := at_ 1 (by omega)
  obtain ⟨y2, e2⟩ := at_ 2 (by omega)
  obtain ⟨y3, e3⟩ := at_ 3 (by omega)
  obtain ⟨y4, e4⟩ := at_ 4 (by omega)
  obtain ⟨y5, e5⟩ := at_ 5 (by omega)
  have g0 : DataW.trod enc Tryz.prog W 0 (fun _ => true) true n' 46 [k0, k1] = some y0 := by have := hg 0 _ rfl; simp only [cH, e0] at this; exact this
  have g1 : DataW.trod enc Tryz.prog W 0 (fun _ => true) true n' 27 [k2] = some y1 := by have := hg 1 _ rfl; simp only [cS, e1] at this; exact this
  have g2 : DataW.trod enc Tryz.prog W 0 (fun _ => true) true n' 27 [k3] = some y2 := by have := hg 2 _ rfl; simp only [cS, e2] at this; exact this
  have g3 : DataW.trod enc Tryz.prog W 0 (fun _ => true) true n' 27 [k4] = some y3 := by have := hg 3 _ rfl; simp only [cS, e3] at this; exact this
  have g4 : DataW.trod enc Tryz.prog W 0 (fun _ => true) true n' 3 [k5] = some y4 := by have := hg 4 _ rfl; simp only [cI, e4] at this; exact this
  have g5 : DataW.trod enc Tryz.prog W 0 (fun _ => true) true n' 47 [k6] = some y5 := by have := hg 5 _ rfl; simp only [cE, e5] at this; exact this
  obtain ⟨hl, hh⟩ := open_fields Tryz.underlying46 (by kernel_rfl) (by kernel_rfl) g0
  obtain ⟨v0, m0, z0, q0, r0⟩ := hh 0 _ rfl
  obtain ⟨v1, m1, z1, q1, r1⟩ := hh 1 _ rfl
  have q0' : k0 = v0 := by simpa using q0
  have q1' : k1 = v1 := by simpa using q1
  subst q0' q1'
  obtain ⟨Hh, rfl, _⟩ := int_of_trod Tryz.underlying3 r0
  obtain ⟨A0, n0, c0, ds, rfl, hc0, hr0⟩ := open_row (en := GDoor.enc) (m := 2) Tryz.underlying44 (by kernel_rfl) (fun _ => rfl) (by omega) opens_Door r1
  obtain ⟨A1, n1, c1, fs, rfl, hc1, hr1⟩ := open_row (en := ienc) (m := 1) Tryz.underlying27 (by kernel_rfl) (fun _ => rfl) (by omega) opens_int g1
  obtain ⟨A2, n2, c2, ps, rfl, hc2, hr2⟩ := open_row (en := ienc) (m := 1) Tryz.underlying27 (by kernel_rfl) (fun _ => rfl) (by omega) opens_int g2
  obtain ⟨A3, n3, c3, gs, rfl, hc3, hr3⟩ := open_row (en := ienc) (m := 1) Tryz.underlying27 (by kernel_rfl) (fun _ => rfl) (by omega) opens_int g3
  obtain ⟨day, rfl, _⟩ := int_of_trod Tryz.underlying3 g4
  obtain ⟨A4, n4, c4, rs, rfl, hc4, hr4⟩ := open_row (en := GEntry.enc) (m := 3) Tryz.underlying47 (by kernel_rfl) (fun _ => rfl) (by omega) opens_Entry g5
  refine ⟨⟨Hh, ⟨A0, n0, c0⟩, ⟨A1, n1, c1⟩, ⟨A2, n2, c2⟩, ⟨A3, n3, c3⟩, day, ⟨A4, n4, c4⟩⟩, ⟨Hh, ds, fs, ps, gs, day, rs⟩, ?_, ⟨rfl, rfl, hr0, hr1, hr2, hr3, hr4⟩⟩
  have h1 : cs = #[.int .i64 Hh, .slice A0 n0 c0, .slice A1 n1 c1, .slice A2 n2 c2, .slice A3 n3 c3, .int .i64 day, .slice A4 n4 c4] := by
    apply Array.ext'
    rw [hcs]
  rw [h1]; rfl
theorem Try_own_FnExactRunActs : ownKnob Tryz.prog.godebug = none := by kernel_rfl
theorem Try_laidOut_FnExactRunActs : laidOutB Tryz.prog = true := by kernel_rfl
set_option maxRecDepth 100000 in
theorem contract_FnExactRunActs (H : Type) (enc : TypeId × Value → H) (W : World) (base : Nat) (args : Array Value) (ds gs : List (DataW H)) (before : List MemPlace)
    (hval : ∀ (j : Nat) t v, Tryz.f14.params[j]? = some t → args[j]? = some v → Value.okWide Tryz.prog W .any base t v)
    (hW : DataW.Whole enc Tryz.prog Tryz.f14.params.toList Rows.fnExactRunActsSpec.vars false W args.toList ds gs before) (hL : laidMetH Tryz.prog Rows.fnExactRunActsRow.laid W) (hS : W.ShapedOpen Tryz.prog) :
    Calls Tryz.prog 14 args W fun e W' => ∃ v, e = .returned v ∧ Rows.fnExactRunActsSpec.post enc Tryz.prog Tryz.f14 false true false false W args v W' := by
  have hW' := hW
  obtain ⟨p, q, hA0, hV, rfl, hfz, hnd⟩ := hW
  have hA : DataW.TrodAll enc Tryz.prog W 0 (fun _ => true) true Tryz.f14.params.toList args.toList ds p := hA0
  rw [Tryz.params14] at hA hval
  obtain ⟨v0, vs0, d0, ds0, p0, q0, hargs, rfl, rfl, h0, r0⟩ := trodAll_cons hA
  obtain ⟨v1, vs1, d1, ds1, p1, q1, rfl, rfl, rfl, h1, r1⟩ := trodAll_cons r0
  obtain ⟨rfl, rfl, rfl⟩ := trodAll_nil r1
  obtain rfl : args = #[v0, v1] := by cases args; simp_all
  obtain ⟨rfl, rfl⟩ := trodVars_none hV
  obtain ⟨v0, a0, rfl, hr0⟩ := open_museum (hval 0 49 v0 rfl rfl) h0
  obtain ⟨A1, n1, c1, a1, rfl, hc1, hr1⟩ := open_slice_arg (en := GAct.enc) Tryz.underlying82 (m := 5) (by kernel_rfl) (fun _ => rfl) (by omega) opens_Act (hval 1 82 v1 rfl rfl) h1
  refine (law_RunActs v0 a0 A1 n1 c1 a1 W hr0 hr1 (Lib.hid (max_of hS))).mono fun e W' ⟨he, hb⟩ => ?_
  subst he
  refine ⟨_, rfl, law_post Try_laidOut_FnExactRunActs ?_ Tryz.underlying4 rfl rfl hW' rfl hb⟩
  rw [Tryz.params14]
  intro t ht
  have ht' : t = 49 ∨ t = 82 := by simpa using ht
  rcases ht' with rfl | rfl
  all_goals exact ⟨by kernel_rfl, of_decide_eq_true (by kernel_rfl)⟩
theorem doormet_FnExactRunActs (os : Os) (args : Array Value) : laidMetH Tryz.prog Rows.fnExactRunActsRow.laid ((laidW Tryz.prog os Rows.fnExactRunActsRow.laid).forCall (fun _ _ => 0) ⟨#[], args, []⟩).memory :=
  laidMetH_of_parts3 (fuel := 300) (laidMet_of_run' 300 (by kernel_rfl) (by kernel_rfl)) (by kernel_rfl) (by kernel_rfl)
set_option maxRecDepth 100000 in
theorem lifted_FnExactRunActs (os : Os) (started : os.Started) (H : Type) (enc : TypeId × Value → H) :
    ReturnsInHanded {} Tryz.checked os 14 .any (fun w args => (Rows.fnExactRunActsSpec.pre enc Tryz.prog Tryz.f14 [] false w args ∧ laidMetH Tryz.prog Rows.fnExactRunActsRow.laid w) ∧ sizedMet enc Tryz.prog Tryz.f14 (OpenSpec.ofChange Rows.fnExactRunActsSpec) false w args)
      (Rows.fnExactRunActsSpec.post enc Tryz.prog Tryz.f14 false true false false) := by
  refine handed_and_shaped (C := Tryz.checked) (X := fun w _ => laidMetH Tryz.prog Rows.fnExactRunActsRow.laid w) (fun _ _ _ hh h => h.of_heap hh) Try_own_FnExactRunActs started (by kernel_rfl) Tryz.func14
    (ChangeSpec.witness_shaped (enc := enc) (C := Tryz.checked) (os := os) (X := fun w _ => laidMetH Tryz.prog Rows.fnExactRunActsRow.laid w) false (laidW Tryz.prog os Rows.fnExactRunActsRow.laid) #[.agg #[.int .i64 0, .slice none 0 0, .slice none 0 0, .slice none 0 0, .slice none 0 0, .int .i64 0, .slice none 0 0], .slice none 0 0] 8 rfl (World.shaped_of_RefB (by kernel_rfl) (by kernel_rfl)) (by kernel_rfl) (by kernel_rfl) (by kernel_rfl) (doormet_FnExactRunActs os _)) ?_
  intro W base args ds gs before hval hW _ _ hL hS _
  exact contract_FnExactRunActs H enc W base args ds gs before hval hW hL hS
set_option maxRecDepth 100000 in
set_option maxHeartbeats 8000000 in
theorem card_closed_FnExactRunActs : joinedFacts Tryz.pinned.checked.prog 14 Tryz.f14 Rows.fnExactRunActsSpec Rows.fnExactRunActsRow = true := by
  unfold joinedFacts
  simp only [Bool.and_eq_true]
  repeat' apply And.intro
  all_goals as_aux_lemma => kernel_rfl
theorem card_func_FnExactRunActs : Tryz.pinned.checked.prog.funcNamed "loop.example/g00991/laws.FnExactRunActs" = some 14 := by kernel_rfl
theorem row_FnExactRunActs : Rows.FnExactRunActsSaid :=
  OpenClaim.holds_of_wide 14 Tryz.f14 rfl rfl rfl rfl rfl rfl rfl ⟨rfl, rfl, rfl, rfl, rfl⟩ rfl rfl rfl rfl rfl card_func_FnExactRunActs Tryz.func14 card_closed_FnExactRunActs
    (of_decide_eq_true (by as_aux_lemma => kernel_rfl)) (by unfold Func.isWrapper; first | (rw [if_pos (by decide +kernel)]; as_aux_lemma => kernel_rfl) | (rw [if_neg (by decide +kernel)]; exact ⟨rfl, rfl⟩))
    (fun os started H enc _ => lifted_FnExactRunActs os started H enc)
theorem card_goes_FnExactRunActs : false = Rows.fnExactRunActsRow.goesBy Tryz.pinned.checked.prog := by kernel_rfl
theorem card_wf_FnExactRunActs : Rows.fnExactRunActsRow.wfByText (OpenSpec.ofChange Rows.fnExactRunActsSpec) = true := by kernel_rfl
theorem card_looks_FnExactRunActs : false = Tryz.pinned.checked.prog.looks [] := by kernel_rfl
theorem card_main_FnExactRunActs : Tryz.pinned.checked.prog.mainIs = some ((true, "eca7bd33e0138cdb4f21d3ed5d4cdf074019afb377fc3f368353adcc6ffaab10").1, (true, "eca7bd33e0138cdb4f21d3ed5d4cdf074019afb377fc3f368353adcc6ffaab10").2.toList) := by kernel_rfl
theorem card_stand_FnExactRunActs : ([49, 82].all fun u => !Tryz.pinned.checked.prog.wantsStandIn u) = true := by kernel_rfl
theorem holds_FnExactRunActs : Rows.FnExactRunActsCardSaid :=
  Claim7.holds_tied_plain_at .later [] [.data, .data, .data, .data, .pinned] true (true, "eca7bd33e0138cdb4f21d3ed5d4cdf074019afb377fc3f368353adcc6ffaab10") false
    row_FnExactRunActs (fun _ h => by cases h) card_wf_FnExactRunActs (fun _ h => by cases h) fnExactRunActs_row_tie rfl ⟨rfl, rfl⟩ card_main_FnExactRunActs rfl
    (fun f fn hf hfn => by
      obtain rfl : f = 14 := Option.some.inj (card_func_FnExactRunActs.symm.trans hf) |>.symm
      obtain rfl : fn = Tryz.f14 := (Option.some.inj (Tryz.func14.symm.trans hfn)).symm
      exact ⟨card_looks_FnExactRunActs, fun j t ht => by
        rw [Tryz.params14] at ht
        have hm : t ∈ [49, 82] := by simpa using Array.mem_of_getElem? ht
        exact (show Tryz.pinned.checked.prog.wantsStandIn t = false by simpa using List.all_eq_true.1 card_stand_FnExactRunActs t hm)⟩)
    card_goes_FnExactRunActs
end Go.Proofs.YtkelmeemblmggaaGreatDoor
