/- The law FnExactFormatMuseum: the program's FormatMuseum returns what the reference's returns, for every argument; no condition. -/
import Derived.Test.YtkelmeemblmggaaDoorRows
import Derived.Test.YtkelmeemblmggaaDoorTie
import Derived.Test.YtkelmeemblmggaaDoorCards
import Derived.ProofKit
import Derived.LaidMore
import Derived.LaidOnce
import Derived.OpenShut
import Derived.SevenTiedAt
import Derived.Stop.Joined
import Derived.Test.YtkelmeemblmggaaDoorZL
namespace Go.Proofs.YtkelmeemblmggaaDoor
set_option linter.unusedSimpArgs false
set_option linter.unusedVariables false
open Go.ChangeShapes Go.WideShapes Go.ChangeAt Go.RowKit
theorem opens_Door : Opens Tryd.prog 97 GDoor.enc := by
  intro H enc w n cs x h
  obtain ⟨hl, hf⟩ := open_fields Tryd.underlying97 (by kernel_rfl) (by kernel_rfl) h
  obtain ⟨v0, n0, y0, e0, r0⟩ := hf 0 _ rfl
  obtain ⟨z0, rfl, _⟩ := int_of_trod Tryd.underlying3 r0
  obtain ⟨v1, n1, y1, e1, r1⟩ := hf 1 _ rfl
  obtain ⟨z1, rfl, _⟩ := int_of_trod Tryd.underlying3 r1
  exact ⟨⟨z0, z1⟩, by
    apply List.ext_getElem? ; intro i
    have hs : cs.length = 2 := hl
    match i with
    | 0 => rw [e0]; rfl
    | 1 => rw [e1]; rfl
    | i + 2 => rw [List.getElem?_eq_none (by omega), List.getElem?_eq_none (by simp [GDoor.enc])]⟩
theorem opens_int : Opens Tryd.prog 3 ienc := by
  intro H enc w n cs x h
  obtain ⟨z, hz, _⟩ := DataW.trod_int Tryd.underlying3 h
  exact ⟨z, hz⟩
set_option maxRecDepth 100000 in
theorem open_museum {H : Type} {enc : TypeId × Value → H} {W : World} {r : Reach} {b0 : Nat} {v : Value} {d : DataW H} {p : List MemPlace} (hv : Value.okWide Tryd.prog W r b0 28 v) (h : DataW.Trod enc Tryd.prog W 0 (fun _ => true) true 28 v d p) :
    ∃ (x : MV) (m : GMuseum), v = x.val ∧ MRd W x m := by
  obtain ⟨cs, rfl, _⟩ := okWide_struct Tryd.underlying28 hv
  obtain ⟨fuel, hf⟩ := h
  have hf' : DataW.trod enc Tryd.prog W 0 (fun _ => true) true fuel 28 cs.toList = some (d, p) := by simpa [Value.cells] using hf
  obtain ⟨ys, n', hn', hy, hlen, hyl, hg⟩ := DataW.trod_struct Tryd.underlying28 hf'
  have h7 : cs.toList.length = 7 := hlen.trans (by kernel_rfl)
  have hys : ys.length = 6 := hyl
  obtain ⟨k0, k1, k2, k3, k4, k5, k6, hcs⟩ : ∃ k0 k1 k2 k3 k4 k5 k6, cs.toList = [k0, k1, k2, k3, k4, k5, k6] := by
    match cs.toList, h7 with
    | [a, b, c, d, e, f, g], _ => exact ⟨a, b, c, d, e, f, g, rfl⟩
  rw [hcs] at hg
  have at_ : ∀ j, j < 6 → ∃ y, ys[j]? = some y := fun j hj => ⟨ys[j]'(by omega), List.getElem?_eq_getElem (by omega)⟩
  have cH : Tryd.prog.cellsOf 24 = 2 := by kernel_rfl
  have cI : Tryd.prog.cellsOf 3 = 1 := by kernel_rfl
  have cS : Tryd.prog.cellsOf 25 = 1 := by kernel_rfl
  have cE : Tryd.prog.cellsOf 26 = 1 := by kernel_rfl
  obtain ⟨y0, e0⟩ := at_ 0 (by omega)
  obtain ⟨y1, e1⟩ := at_ 1 (by omega)
  obtain ⟨y2, e2⟩ := at_ 2 (by omega)
  obtain ⟨y3, e3⟩ := at_ 3 (by omega)
  obtain ⟨y4, e4⟩ := at_ 4 (by omega)
  obtain ⟨y5, e5⟩ := at_ 5 (by omega)
  have g0 : DataW.trod enc Tryd.prog W 0 (fun _ => true) true n' 24 [k0, k1] = some y0 := by have := hg 0 _ rfl; simp only [cH, e0] at this; exact this
  have g1 : DataW.trod enc Tryd.prog W 0 (fun _ => true) true n' 25 [k2] = some y1 := by have := hg 1 _ rfl; simp only [cS, e1] at this; exact this
  have g2 : DataW.trod enc Tryd.prog W 0 (fun _ => true) true n' 25 [k3] = some y2 := by have := hg 2 _ rfl; simp only [cS, e2] at this; exact this
  have g3 : DataW.trod enc Tryd.prog W 0 (fun _ => true) true n' 25 [k4] = some y3 := by have := hg 3 _ rfl; simp only [cS, e3] at this; exact this
  have g4 : DataW.trod enc Tryd.prog W 0 (fun _ => true) true n' 3 [k5] = some y4 := by have := hg 4 _ rfl; simp only [cI, e4] at this; exact this
  have g5 : DataW.trod enc Tryd.prog W 0 (fun _ => true) true n' 26 [k6] = some y5 := by have := hg 5 _ rfl; simp only [cE, e5] at this; exact this
  obtain ⟨hl, hh⟩ := open_fields Tryd.underlying24 (by kernel_rfl) (by kernel_rfl) g0
  obtain ⟨v0, m0, z0, q0, r0⟩ := hh 0 _ rfl
  obtain ⟨v1, m1, z1, q1, r1⟩ := hh 1 _ rfl
  have q0' : k0 = v0 := by simpa using q0
  have q1' : k1 = v1 := by simpa using q1
  subst q0' q1'
  obtain ⟨Hh, rfl, _⟩ := int_of_trod Tryd.underlying3 r0
  obtain ⟨A0, n0, c0, ds, rfl, hc0, hr0⟩ := open_row (en := GDoor.enc) (m := 2) Tryd.underlying22 (by kernel_rfl) (fun _ => rfl) (by omega) opens_Door r1
  obtain ⟨A1, n1, c1, fs, rfl, hc1, hr1⟩ := open_row (en := ienc) (m := 1) Tryd.underlying25 (by kernel_rfl) (fun _ => rfl) (by omega) opens_int g1
  obtain ⟨A2, n2, c2, ps, rfl, hc2, hr2⟩ := open_row (en := ienc) (m := 1) Tryd.underlying25 (by kernel_rfl) (fun _ => rfl) (by omega) opens_int g2
  obtain ⟨A3, n3, c3, gs, rfl, hc3, hr3⟩ := open_row (en := ienc) (m := 1) Tryd.underlying25 (by kernel_rfl) (fun _ => rfl) (by omega) opens_int g3
  obtain ⟨day, rfl, _⟩ := int_of_trod Tryd.underlying3 g4
  obtain ⟨A4, n4, c4, rs, rfl, hc4, hr4⟩ := open_row (en := GEntry.enc) (m := 3) Tryd.underlying26 (by kernel_rfl) (fun _ => rfl) (by omega) opens_Entry g5
  refine ⟨⟨Hh, ⟨A0, n0, c0⟩, ⟨A1, n1, c1⟩, ⟨A2, n2, c2⟩, ⟨A3, n3, c3⟩, day, ⟨A4, n4, c4⟩⟩, ⟨Hh, ds, fs, ps, gs, day, rs⟩, ?_, ⟨rfl, rfl, hr0, hr1, hr2, hr3, hr4⟩⟩
  have h1 : cs = #[.int .i64 Hh, .slice A0 n0 c0, .slice A1 n1 c1, .slice A2 n2 c2, .slice A3 n3 c3, .int .i64 day, .slice A4 n4 c4] := by
    apply Array.ext'
    rw [hcs]
  rw [h1]; rfl
theorem Try_own_FnExactFormatMuseum : ownKnob Tryd.prog.godebug = none := by kernel_rfl
theorem Try_laidOut_FnExactFormatMuseum : laidOutB Tryd.prog = true := by kernel_rfl
set_option maxRecDepth 100000 in
theorem contract_FnExactFormatMuseum (H : Type) (enc : TypeId × Value → H) (W : World) (base : Nat) (args : Array Value) (ds gs : List (DataW H)) (before : List MemPlace)
    (hval : ∀ (j : Nat) t v, Tryd.f3.params[j]? = some t → args[j]? = some v → Value.okWide Tryd.prog W .any base t v)
    (hW : DataW.Whole enc Tryd.prog Tryd.f3.params.toList Rows.fnExactFormatMuseumSpec.vars false W args.toList ds gs before) (hL : laidMetH Tryd.prog Rows.fnExactFormatMuseumRow.laid W) :
    Calls Tryd.prog 3 args W fun e W' => ∃ v, e = .returned v ∧ Rows.fnExactFormatMuseumSpec.post enc Tryd.prog Tryd.f3 false true false false W args v W' := by
  have hW' := hW
  obtain ⟨p, q, hA0, hV, rfl, hfz, hnd⟩ := hW
  have hA : DataW.TrodAll enc Tryd.prog W 0 (fun _ => true) true Tryd.f3.params.toList args.toList ds p := hA0
  rw [Tryd.params3] at hA hval
  obtain ⟨v0, vs0, d0, ds0, p0, q0, hargs, rfl, rfl, h0, r0⟩ := trodAll_cons hA
  obtain ⟨rfl, rfl, rfl⟩ := trodAll_nil r0
  obtain rfl : args = #[v0] := by cases args; simp_all
  obtain ⟨rfl, rfl⟩ := trodVars_none hV
  obtain ⟨v0, a0, rfl, hr0⟩ := open_museum (hval 0 28 v0 rfl rfl) h0
  refine (law_FormatMuseum v0 a0 W hr0 (Lib.hid (tab_laid hL))).mono fun e W' ⟨he, hb⟩ => ?_
  subst he
  refine ⟨_, rfl, law_post Try_laidOut_FnExactFormatMuseum ?_ Tryd.underlying4 rfl rfl hW' rfl hb⟩
  rw [Tryd.params3]
  intro t ht
  obtain rfl : t = 28 := by simpa using ht
  exact ⟨by kernel_rfl, of_decide_eq_true (by kernel_rfl)⟩
theorem doormet_FnExactFormatMuseum (os : Os) (args : Array Value) : laidMetH Tryd.prog Rows.fnExactFormatMuseumRow.laid ((World.doorLaid Tryd.prog 600 os).forCall (fun _ _ => 0) ⟨#[], args, []⟩).memory :=
  laidMetH_of_parts3 (fuel := 70) (laidMet_of_run' 70 (by kernel_rfl) (by kernel_rfl)) (by kernel_rfl) (by kernel_rfl)
set_option maxRecDepth 100000 in
theorem lifted_FnExactFormatMuseum (os : Os) (started : os.Started) (H : Type) (enc : TypeId × Value → H) :
    ReturnsInHanded {} Tryd.checked os 3 .any (fun w args => (Rows.fnExactFormatMuseumSpec.pre enc Tryd.prog Tryd.f3 [] false w args ∧ laidMetH Tryd.prog Rows.fnExactFormatMuseumRow.laid w) ∧ sizedMet enc Tryd.prog Tryd.f3 (OpenSpec.ofChange Rows.fnExactFormatMuseumSpec) false w args)
      (Rows.fnExactFormatMuseumSpec.post enc Tryd.prog Tryd.f3 false true false false) := by
  refine returnsInHanded_of_change_and (C := Tryd.checked) (X := fun w _ => laidMetH Tryd.prog Rows.fnExactFormatMuseumRow.laid w) (fun _ _ _ hh h => h.of_heap hh) Try_own_FnExactFormatMuseum started (by kernel_rfl) Tryd.func3
    (ChangeSpec.witness_shaped (enc := enc) (C := Tryd.checked) (os := os) (X := fun w _ => laidMetH Tryd.prog Rows.fnExactFormatMuseumRow.laid w) false (World.doorLaid Tryd.prog 600 os) #[.agg #[.int .i64 0, .slice none 0 0, .slice none 0 0, .slice none 0 0, .slice none 0 0, .int .i64 0, .slice none 0 0]] 8 rfl (World.shaped_of_RefB (by kernel_rfl) (by kernel_rfl)) (by kernel_rfl) (by kernel_rfl) (by kernel_rfl) (doormet_FnExactFormatMuseum os _)) ?_
  intro W base args ds gs before hval hW _ _ hL _
  exact contract_FnExactFormatMuseum H enc W base args ds gs before hval hW hL
set_option maxRecDepth 100000 in
set_option maxHeartbeats 8000000 in
theorem card_closed_FnExactFormatMuseum : joinedFacts Tryd.pinned.checked.prog 3 Tryd.f3 Rows.fnExactFormatMuseumSpec Rows.fnExactFormatMuseumRow = true := by
  unfold joinedFacts
  simp only [Bool.and_eq_true]
  repeat' apply And.intro
  all_goals as_aux_lemma => kernel_rfl
theorem card_func_FnExactFormatMuseum : Tryd.pinned.checked.prog.funcNamed "loop.example/g00991/laws.FnExactFormatMuseum" = some 3 := by kernel_rfl
theorem row_FnExactFormatMuseum : Rows.FnExactFormatMuseumSaid :=
  OpenClaim.holds_of_wide 3 Tryd.f3 rfl rfl rfl rfl rfl rfl rfl ⟨rfl, rfl, rfl, rfl, rfl⟩ rfl rfl rfl rfl rfl card_func_FnExactFormatMuseum Tryd.func3 card_closed_FnExactFormatMuseum
    (of_decide_eq_true (by as_aux_lemma => kernel_rfl)) (by unfold Func.isWrapper; first | (rw [if_pos (by decide +kernel)]; as_aux_lemma => kernel_rfl) | (rw [if_neg (by decide +kernel)]; exact ⟨rfl, rfl⟩))
    (fun os started H enc _ => lifted_FnExactFormatMuseum os started H enc)
theorem card_goes_FnExactFormatMuseum : false = Rows.fnExactFormatMuseumRow.goesBy Tryd.pinned.checked.prog := by kernel_rfl
theorem card_wf_FnExactFormatMuseum : Rows.fnExactFormatMuseumRow.wfByText (OpenSpec.ofChange Rows.fnExactFormatMuseumSpec) = true := by kernel_rfl
theorem card_looks_FnExactFormatMuseum : false = Tryd.pinned.checked.prog.looks [] := by kernel_rfl
theorem card_main_FnExactFormatMuseum : Tryd.pinned.checked.prog.mainIs = some ((true, "6195f01b4dd9a52d06120e7000ff8af782e80fa18cd85ed86f259f38406f6305").1, (true, "6195f01b4dd9a52d06120e7000ff8af782e80fa18cd85ed86f259f38406f6305").2.toList) := by kernel_rfl
theorem card_stand_FnExactFormatMuseum : ([28].all fun u => !Tryd.pinned.checked.prog.wantsStandIn u) = true := by kernel_rfl
theorem holds_FnExactFormatMuseum : Rows.FnExactFormatMuseumCardSaid :=
  Claim7.holds_tied_plain_at .later [] [.data, .data, .data] true (true, "6195f01b4dd9a52d06120e7000ff8af782e80fa18cd85ed86f259f38406f6305") false
    row_FnExactFormatMuseum (fun _ h => by cases h) card_wf_FnExactFormatMuseum (fun _ h => by cases h) fnExactFormatMuseum_row_tie rfl ⟨rfl, rfl⟩ card_main_FnExactFormatMuseum rfl
    (fun f fn hf hfn => by
      obtain rfl : f = 3 := Option.some.inj (card_func_FnExactFormatMuseum.symm.trans hf) |>.symm
      obtain rfl : fn = Tryd.f3 := (Option.some.inj (Tryd.func3.symm.trans hfn)).symm
      exact ⟨card_looks_FnExactFormatMuseum, fun j t ht => by
        rw [Tryd.params3] at ht
        have hm : t ∈ [28] := by simpa using Array.mem_of_getElem? ht
        exact (show Tryd.pinned.checked.prog.wantsStandIn t = false by simpa using List.all_eq_true.1 card_stand_FnExactFormatMuseum t hm)⟩)
    card_goes_FnExactFormatMuseum
end Go.Proofs.YtkelmeemblmggaaDoor
