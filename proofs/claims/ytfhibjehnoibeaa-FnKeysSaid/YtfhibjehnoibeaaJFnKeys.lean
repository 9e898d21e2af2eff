/- The law FnKeys: the law on keys holds; no condition. -/
import Derived.Test.YtfhibjehnoibeaaRows
import Derived.Test.YtfhibjehnoibeaaZF
namespace Go.Proofs.Ytfhibjehnoibeaa
set_option linter.unusedSimpArgs false
set_option linter.unusedVariables false
open Go.ChangeShapes Go.WideShapes Go.ChangeAt Go.RowKit
theorem byte_range {z : Int} (h : (Lit.int .u8 z).wf = true) : 0 ≤ z ∧ z ≤ 255 := by
  simp only [Lit.wf, Bool.and_eq_true, decide_eq_true_eq] at h
  have h1 : IntKind.u8.min = 0 := by rfl
  have h2 : IntKind.u8.max = 255 := by rfl
  rw [h1, h2] at h
  exact h
theorem opens_byteU : Opens Try.prog 5 bencU := by
  intro H enc w n cs x h
  obtain ⟨z, hz, _, hw⟩ := DataW.trod_int Try.underlying5 h
  have h2 : 0 ≤ z ∧ z ≤ 255 := byte_range hw
  refine ⟨UInt8.ofNat z.toNat, ?_⟩
  rw [hz]
  unfold bencU
  rw [UInt8.toNat_ofNat', Nat.mod_eq_of_lt (by omega)]
  rw [Int.toNat_of_nonneg h2.1]
theorem Try_own_FnKeys : ownKnob Try.prog.godebug = none := by kernel_rfl
theorem Try_laidOut_FnKeys : laidOutB Try.prog = true := by kernel_rfl
set_option maxRecDepth 100000 in
theorem contract_FnKeys (H : Type) (enc : TypeId × Value → H) (W : World) (base : Nat) (args : Array Value) (ds gs : List (DataW H)) (before : List MemPlace)
    (hval : ∀ (j : Nat) t v, Try.f3.params[j]? = some t → args[j]? = some v → Value.okWide Try.prog W .any base t v)
    (hW : DataW.Whole enc Try.prog Try.f3.params.toList Rows.fnKeysSpec.vars false W args.toList ds gs before) :
    Calls Try.prog 3 args W fun e W' => ∃ v, e = .returned v ∧ Rows.fnKeysSpec.post enc Try.prog Try.f3 false true false false W args v W' := by
  have hW' := hW
  obtain ⟨p, q, hA0, hV, rfl, hfz, hnd⟩ := hW
  have hA : DataW.TrodAll enc Try.prog W 0 (fun _ => true) true Try.f3.params.toList args.toList ds p := hA0
  rw [Try.params3] at hA hval
  obtain ⟨v0, vs0, d0, ds0, p0, q0, hargs, rfl, rfl, h0, r0⟩ := trodAll_cons hA
  obtain ⟨rfl, rfl, rfl⟩ := trodAll_nil r0
  obtain rfl : args = #[v0] := by cases args; simp_all
  obtain ⟨rfl, rfl⟩ := trodVars_none hV
  obtain ⟨A0, n0, c0, a0, rfl, hc0, hr0⟩ := open_slice_arg (en := bencU) Try.underlying22 (m := 1) (by kernel_rfl) (fun _ => rfl) (by omega) opens_byteU (hval 0 22 v0 rfl rfl) h0
  refine (law_FnKeys A0 n0 c0 a0 W hr0).mono fun e W' ⟨he, hb⟩ => ?_
  subst he
  refine ⟨_, rfl, law_post Try_laidOut_FnKeys ?_ Try.underlying4 rfl rfl hW' rfl hb⟩
  rw [Try.params3]
  intro t ht
  obtain rfl : t = 22 := by simpa using ht
  exact ⟨by kernel_rfl, of_decide_eq_true (by kernel_rfl)⟩
set_option maxRecDepth 100000 in
theorem lifted_FnKeys (os : Os) (started : os.Started) (H : Type) (enc : TypeId × Value → H) :
    ReturnsInHanded {} Try.checked os 3 .any (Rows.fnKeysSpec.pre6 enc Try.prog Try.f3 Rows.fnKeysRow.domain false) (Rows.fnKeysSpec.post enc Try.prog Try.f3 false true false false) := by
  refine returnsInHanded_of_change (C := Try.checked) Try_own_FnKeys started (by kernel_rfl) Try.func3
    (ChangeSpec.witness6 (enc := enc) (C := Try.checked) false ⟨#[], #[.slice none 0 0], []⟩ 8 (by kernel_rfl) (by kernel_rfl) (by kernel_rfl) (by kernel_rfl)) ?_
  intro W base args ds gs before hval hW _ _
  exact contract_FnKeys H enc W base args ds gs before hval hW
theorem holds_FnKeys : Rows.FnKeysSaid :=
  OpenClaim.holds_of_wide 3 Try.f3 rfl rfl rfl rfl rfl rfl rfl ⟨rfl, rfl, rfl, rfl, rfl⟩ rfl rfl rfl rfl rfl (by kernel_rfl) Try.func3 (by kernel_rfl)
    (of_decide_eq_true (by kernel_rfl)) (by unfold Func.isWrapper; first | (rw [if_pos (by decide +kernel)]; kernel_rfl) | (rw [if_neg (by decide +kernel)]; exact ⟨rfl, rfl⟩))
    (fun os started H enc _ => lifted_FnKeys os started H enc)
end Go.Proofs.Ytfhibjehnoibeaa
