/- The law FnExactSuspects: the program's Suspects returns what the reference's returns, for every argument; no condition. -/
import Derived.Test.YtlgmiifpdjalpaaRows
import Derived.Test.YtlgmiifpdjalpaaLX
namespace Go.Proofs.Ytlgmiifpdjalpaa
set_option linter.unusedSimpArgs false
set_option linter.unusedVariables false
open Go.ChangeShapes Go.WideShapes Go.ChangeAt Go.RowKit
theorem opens_Stay : Opens Try.prog 140 GStay.enc := by
  intro H enc w n cs x h
  obtain ⟨hl, hf⟩ := open_fields Try.underlying140 (by kernel_rfl) (by kernel_rfl) h
  obtain ⟨v0, n0, y0, e0, r0⟩ := hf 0 _ rfl
  obtain ⟨z0, rfl, _⟩ := int_of_trod Try.underlying3 r0
  obtain ⟨v1, n1, y1, e1, r1⟩ := hf 1 _ rfl
  obtain ⟨z1, rfl, _⟩ := int_of_trod Try.underlying3 r1
  obtain ⟨v2, n2, y2, e2, r2⟩ := hf 2 _ rfl
  obtain ⟨z2, rfl, _⟩ := int_of_trod Try.underlying3 r2
  obtain ⟨v3, n3, y3, e3, r3⟩ := hf 3 _ rfl
  obtain ⟨z3, rfl, _⟩ := int_of_trod Try.underlying3 r3
  exact ⟨⟨z0, z1, z2, z3⟩, by
    apply List.ext_getElem? ; intro i
    have hs : cs.length = 4 := hl
    match i with
    | 0 => rw [e0]; rfl
    | 1 => rw [e1]; rfl
    | 2 => rw [e2]; rfl
    | 3 => rw [e3]; rfl
    | i + 4 => rw [List.getElem?_eq_none (by omega), List.getElem?_eq_none (by simp [GStay.enc])]⟩
theorem opens_Check : Opens Try.prog 117 GCheck.enc := by
  intro H enc w n cs x h
  obtain ⟨hl, hf⟩ := open_fields Try.underlying117 (by kernel_rfl) (by kernel_rfl) h
  obtain ⟨v0, n0, y0, e0, r0⟩ := hf 0 _ rfl
  obtain ⟨z0, rfl, _⟩ := int_of_trod Try.underlying3 r0
  obtain ⟨v1, n1, y1, e1, r1⟩ := hf 1 _ rfl
  obtain ⟨z1, rfl, _⟩ := int_of_trod Try.underlying3 r1
  obtain ⟨v2, n2, y2, e2, r2⟩ := hf 2 _ rfl
  obtain ⟨z2, rfl⟩ := bool_of_trod Try.underlying4 r2
  exact ⟨⟨z0, z1, z2⟩, by
    apply List.ext_getElem? ; intro i
    have hs : cs.length = 3 := hl
    match i with
    | 0 => rw [e0]; rfl
    | 1 => rw [e1]; rfl
    | 2 => rw [e2]; rfl
    | i + 3 => rw [List.getElem?_eq_none (by omega), List.getElem?_eq_none (by simp [GCheck.enc])]⟩
theorem Try_own_FnExactSuspects : ownKnob Try.prog.godebug = none := by kernel_rfl
theorem Try_laidOut_FnExactSuspects : laidOutB Try.prog = true := by kernel_rfl
set_option maxRecDepth 100000 in
theorem contract_FnExactSuspects (H : Type) (enc : TypeId × Value → H) (W : World) (base : Nat) (args : Array Value) (ds gs : List (DataW H)) (before : List MemPlace)
    (hval : ∀ (j : Nat) t v, Try.f16.params[j]? = some t → args[j]? = some v → Value.okWide Try.prog W .any base t v)
    (hW : DataW.Whole enc Try.prog Try.f16.params.toList Rows.fnExactSuspectsSpec.vars false W args.toList ds gs before) :
    Calls Try.prog 16 args W fun e W' => ∃ v, e = .returned v ∧ Rows.fnExactSuspectsSpec.post enc Try.prog Try.f16 false true false false W args v W' := by
  have hW' := hW
  obtain ⟨p, q, hA0, hV, rfl, hfz, hnd⟩ := hW
  have hA : DataW.TrodAll enc Try.prog W 0 (fun _ => true) true Try.f16.params.toList args.toList ds p := hA0
  rw [Try.params16] at hA hval
  obtain ⟨v0, vs0, d0, ds0, p0, q0, hargs, rfl, rfl, h0, r0⟩ := trodAll_cons hA
  obtain ⟨v1, vs1, d1, ds1, p1, q1, rfl, rfl, rfl, h1, r1⟩ := trodAll_cons r0
  obtain ⟨v2, vs2, d2, ds2, p2, q2, rfl, rfl, rfl, h2, r2⟩ := trodAll_cons r1
  obtain ⟨v3, vs3, d3, ds3, p3, q3, rfl, rfl, rfl, h3, r3⟩ := trodAll_cons r2
  obtain ⟨rfl, rfl, rfl⟩ := trodAll_nil r3
  obtain rfl : args = #[v0, v1, v2, v3] := by cases args; simp_all
  obtain ⟨rfl, rfl⟩ := trodVars_none hV
  obtain ⟨A0, n0, c0, a0, rfl, hc0, hr0⟩ := open_slice_arg (en := GStay.enc) Try.underlying98 (m := 4) (by kernel_rfl) (fun _ => rfl) (by omega) opens_Stay (hval 0 98 v0 rfl rfl) h0
  obtain ⟨a1, rfl, _, _, wf1⟩ := open_int Try.underlying3 (hval 1 3 v1 rfl rfl) h1
  obtain ⟨A2, n2, c2, a2, rfl, hc2, hr2⟩ := open_slice_arg (en := GCheck.enc) Try.underlying56 (m := 3) (by kernel_rfl) (fun _ => rfl) (by omega) opens_Check (hval 2 56 v2 rfl rfl) h2
  obtain ⟨a3, rfl, _, _, wf3⟩ := open_int Try.underlying3 (hval 3 3 v3 rfl rfl) h3
  refine (law_Suspects A0 n0 c0 a0 a1 A2 n2 c2 a2 a3 W hr0 hr2).mono fun e W' ⟨he, hb⟩ => ?_
  subst he
  refine ⟨_, rfl, law_post Try_laidOut_FnExactSuspects ?_ Try.underlying4 rfl rfl hW' rfl hb⟩
  rw [Try.params16]
  intro t ht
  have ht' : t = 98 ∨ t = 3 ∨ t = 56 ∨ t = 3 := by simpa using ht
  rcases ht' with rfl | rfl | rfl | rfl
  all_goals exact ⟨by kernel_rfl, of_decide_eq_true (by kernel_rfl)⟩
set_option maxRecDepth 100000 in
theorem lifted_FnExactSuspects (os : Os) (started : os.Started) (H : Type) (enc : TypeId × Value → H) :
    ReturnsInHanded {} Try.checked os 16 .any (Rows.fnExactSuspectsSpec.pre6 enc Try.prog Try.f16 Rows.fnExactSuspectsRow.domain false) (Rows.fnExactSuspectsSpec.post enc Try.prog Try.f16 false true false false) := by
  refine returnsInHanded_of_change (C := Try.checked) Try_own_FnExactSuspects started (by kernel_rfl) Try.func16
    (ChangeSpec.witness6 (enc := enc) (C := Try.checked) false ⟨#[], #[.slice none 0 0, .int .i64 0, .slice none 0 0, .int .i64 0], []⟩ 8 (by kernel_rfl) (by kernel_rfl) (by kernel_rfl) (by kernel_rfl)) ?_
  intro W base args ds gs before hval hW _ _
  exact contract_FnExactSuspects H enc W base args ds gs before hval hW
theorem holds_FnExactSuspects : Rows.FnExactSuspectsSaid :=
  OpenClaim.holds_of_wide 16 Try.f16 rfl rfl rfl rfl rfl rfl rfl ⟨rfl, rfl, rfl, rfl, rfl⟩ rfl rfl rfl rfl rfl (by kernel_rfl) Try.func16 (by kernel_rfl)
    (of_decide_eq_true (by kernel_rfl)) (by unfold Func.isWrapper; first | (rw [if_pos (by decide +kernel)]; kernel_rfl) | (rw [if_neg (by decide +kernel)]; exact ⟨rfl, rfl⟩))
    (fun os started H enc _ => lifted_FnExactSuspects os started H enc)
end Go.Proofs.Ytlgmiifpdjalpaa
