/- The law FnExactJoinRings: the program's JoinRings returns what the reference's returns, for every argument; no condition. -/
import Derived.Test.YtkfffindheaagaaRows
import Derived.Test.YtkfffindheaagaaLD
namespace Go.Proofs.Ytkfffindheaagaa
open Go.ChangeShapes Go.WideShapes Go.ChangeAt Go.RowKit
theorem opens_int : Opens Try.prog 3 ienc := by
  intro H enc w n cs x h
  obtain ⟨z, hz, _⟩ := DataW.trod_int Try.underlying3 h
  exact ⟨z, hz⟩
theorem Try_own_FnExactJoinRings : ownKnob Try.prog.godebug = none := by kernel_rfl
theorem Try_laidOut_FnExactJoinRings : laidOutB Try.prog = true := by kernel_rfl
set_option maxRecDepth 100000 in
theorem contract_FnExactJoinRings (H : Type) (enc : TypeId × Value → H) (W : World) (base : Nat) (args : Array Value) (ds gs : List (DataW H)) (before : List MemPlace)
    (hval : ∀ (j : Nat) t v, Try.f6.params[j]? = some t → args[j]? = some v → Value.okWide Try.prog W .any base t v)
    (hW : DataW.Whole enc Try.prog Try.f6.params.toList Rows.fnExactJoinRingsSpec.vars false W args.toList ds gs before) :
    Calls Try.prog 6 args W fun e W' => ∃ v, e = .returned v ∧ Rows.fnExactJoinRingsSpec.post enc Try.prog Try.f6 false true false false W args v W' := by
  have hW' := hW
  obtain ⟨p, q, hA0, hV, rfl, hfz, hnd⟩ := hW
  have hA : DataW.TrodAll enc Try.prog W 0 (fun _ => true) true Try.f6.params.toList args.toList ds p := hA0
  rw [Try.params6] at hA hval
  obtain ⟨v0, vs0, d0, ds0, p0, q0, hargs, rfl, rfl, h0, r0⟩ := trodAll_cons hA
  obtain ⟨rfl, rfl, rfl⟩ := trodAll_nil r0
  obtain rfl : args = #[v0] := by cases args; simp_all
  obtain ⟨rfl, rfl⟩ := trodVars_none hV
  obtain ⟨A0, n0, c0, a0, rfl, hc0, hr0⟩ := open_slice_arg (en := ienc) Try.underlying36 (m := 1) (by kernel_rfl) (fun _ => rfl) (by omega) opens_int (hval 0 36 v0 rfl rfl) h0
  refine (law_JoinRings A0 n0 c0 a0 W hr0).mono fun e W' ⟨he, hb⟩ => ?_
  subst he
  refine ⟨_, rfl, law_post Try_laidOut_FnExactJoinRings ?_ Try.underlying4 rfl rfl hW' rfl hb⟩
  rw [Try.params6]
  intro t ht
  obtain rfl : t = 36 := by simpa using ht
  exact ⟨by kernel_rfl, of_decide_eq_true (by kernel_rfl)⟩
set_option maxRecDepth 100000 in
theorem lifted_FnExactJoinRings (os : Os) (started : os.Started) (H : Type) (enc : TypeId × Value → H) :
    ReturnsInHanded {} Try.checked os 6 .any (Rows.fnExactJoinRingsSpec.pre6 enc Try.prog Try.f6 Rows.fnExactJoinRingsRow.domain false) (Rows.fnExactJoinRingsSpec.post enc Try.prog Try.f6 false true false false) := by
  refine returnsInHanded_of_change (C := Try.checked) Try_own_FnExactJoinRings started (by kernel_rfl) Try.func6
    (ChangeSpec.witness6 (enc := enc) (C := Try.checked) false ⟨#[], #[.slice none 0 0], []⟩ 8 (by kernel_rfl) (by kernel_rfl) (by kernel_rfl) (by kernel_rfl)) ?_
  intro W base args ds gs before hval hW _ _
  exact contract_FnExactJoinRings H enc W base args ds gs before hval hW
theorem holds_FnExactJoinRings : Rows.FnExactJoinRingsSaid :=
  OpenClaim.holds_of_wide 6 Try.f6 rfl rfl rfl rfl rfl rfl rfl ⟨rfl, rfl, rfl, rfl, rfl⟩ rfl rfl rfl rfl rfl (by kernel_rfl) Try.func6 (by kernel_rfl)
    (of_decide_eq_true (by kernel_rfl)) (by unfold Func.isWrapper; first | (rw [if_pos (by decide +kernel)]; kernel_rfl) | (rw [if_neg (by decide +kernel)]; exact ⟨rfl, rfl⟩))
    (fun os started H enc _ => lifted_FnExactJoinRings os started H enc)
end Go.Proofs.Ytkfffindheaagaa
