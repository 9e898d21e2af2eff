/- The law FnExactNewMuseum: the program's NewMuseum returns what the reference's returns, for every argument; no condition. -/
import Derived.Test.YtkelmeemblmggaaRows
import Derived.Test.YtkelmeemblmggaaNM3
namespace Go.Proofs.Ytkelmeemblmggaa
set_option linter.unusedSimpArgs false
set_option linter.unusedVariables false
open Go.ChangeShapes Go.WideShapes Go.ChangeAt Go.RowKit
theorem opens_Door : Opens Try.prog 77 GDoor.enc := by
  intro H enc w n cs x h
  obtain ⟨hl, hf⟩ := open_fields Try.underlying77 (by kernel_rfl) (by kernel_rfl) h
  obtain ⟨v0, n0, y0, e0, r0⟩ := hf 0 _ rfl
  obtain ⟨z0, rfl, _⟩ := int_of_trod Try.underlying3 r0
  obtain ⟨v1, n1, y1, e1, r1⟩ := hf 1 _ rfl
  obtain ⟨z1, rfl, _⟩ := int_of_trod Try.underlying3 r1
  exact ⟨⟨z0, z1⟩, by
    apply List.ext_getElem? ; intro i
    have hs : cs.length = 2 := hl
    match i with
    | 0 => rw [e0]; rfl
    | 1 => rw [e1]; rfl
    | i + 2 => rw [List.getElem?_eq_none (by omega), List.getElem?_eq_none (by simp [GDoor.enc])]⟩
theorem opens_int : Opens Try.prog 3 ienc := by
  intro H enc w n cs x h
  obtain ⟨z, hz, _⟩ := DataW.trod_int Try.underlying3 h
  exact ⟨z, hz⟩
set_option maxRecDepth 100000 in
theorem open_house {H : Type} {enc : TypeId × Value → H} {W : World} {r : Reach} {b0 : Nat} {v : Value} {d : DataW H} {p : List MemPlace} (hv : Value.okWide Try.prog W r b0 35 v) (h : DataW.Trod enc Try.prog W 0 (fun _ => true) true 35 v d p) :
    ∃ (z : Int) (A : Option Addr) (n c : Nat) (ds : List GDoor), v = .agg #[.int .i64 z, .slice A n c] ∧ Rd W 2 A n (ds.flatMap GDoor.enc) := by
  obtain ⟨cs, rfl, _⟩ := okWide_struct Try.underlying35 hv
  obtain ⟨fuel, hf⟩ := h
  have hf' : DataW.trod enc Try.prog W 0 (fun _ => true) true fuel 35 cs.toList = some (d, p) := by simpa [Value.cells] using hf
  obtain ⟨hl, hg⟩ := open_fields Try.underlying35 (by kernel_rfl) (by kernel_rfl) hf'
  obtain ⟨v0, n0, y0, e0, r0⟩ := hg 0 _ rfl
  obtain ⟨v1, n1, y1, e1, r1⟩ := hg 1 _ rfl
  obtain ⟨z, rfl, _⟩ := int_of_trod Try.underlying3 r0
  obtain ⟨A, n, c, ds, rfl, hnc, hr⟩ := open_row (en := GDoor.enc) (m := 2) Try.underlying33 (by kernel_rfl) (fun _ => rfl) (by omega) opens_Door r1
  refine ⟨z, A, n, c, ds, ?_, hr⟩
  have hs : cs.toList.length = 2 := hl
  have h0 : cs.toList = [.int .i64 z, .slice A n c] := by
    apply List.ext_getElem?
    intro i
    match i with
    | 0 => rw [e0]; rfl
    | 1 => rw [e1]; rfl
    | i + 2 => rw [List.getElem?_eq_none (by omega), List.getElem?_eq_none (by simp)]
  have h1 : cs = #[.int .i64 z, .slice A n c] := by
    apply Array.ext'
    rw [h0]
  rw [h1]
theorem Try_own_FnExactNewMuseum : ownKnob Try.prog.godebug = none := by kernel_rfl
theorem Try_laidOut_FnExactNewMuseum : laidOutB Try.prog = true := by kernel_rfl
set_option maxRecDepth 100000 in
theorem contract_FnExactNewMuseum (H : Type) (enc : TypeId × Value → H) (W : World) (base : Nat) (args : Array Value) (ds gs : List (DataW H)) (before : List MemPlace)
    (hval : ∀ (j : Nat) t v, Try.f4.params[j]? = some t → args[j]? = some v → Value.okWide Try.prog W .any base t v)
    (hW : DataW.Whole enc Try.prog Try.f4.params.toList Rows.fnExactNewMuseumSpec.vars false W args.toList ds gs before) :
    Calls Try.prog 4 args W fun e W' => ∃ v, e = .returned v ∧ Rows.fnExactNewMuseumSpec.post enc Try.prog Try.f4 false true false false W args v W' := by
  have hW' := hW
  obtain ⟨p, q, hA0, hV, rfl, hfz, hnd⟩ := hW
  have hA : DataW.TrodAll enc Try.prog W 0 (fun _ => true) true Try.f4.params.toList args.toList ds p := hA0
  rw [Try.params4] at hA hval
  obtain ⟨v0, vs0, d0, ds0, p0, q0, hargs, rfl, rfl, h0, r0⟩ := trodAll_cons hA
  obtain ⟨v1, vs1, d1, ds1, p1, q1, rfl, rfl, rfl, h1, r1⟩ := trodAll_cons r0
  obtain ⟨v2, vs2, d2, ds2, p2, q2, rfl, rfl, rfl, h2, r2⟩ := trodAll_cons r1
  obtain ⟨rfl, rfl, rfl⟩ := trodAll_nil r2
  obtain rfl : args = #[v0, v1, v2] := by cases args; simp_all
  obtain ⟨rfl, rfl⟩ := trodVars_none hV
  obtain ⟨H0, A0, n0, c0, a0, rfl, hr0⟩ := open_house (hval 0 35 v0 rfl rfl) h0
  obtain ⟨A1, n1, c1, a1, rfl, hc1, hr1⟩ := open_slice_arg (en := ienc) Try.underlying25 (m := 1) (by kernel_rfl) (fun _ => rfl) (by omega) opens_int (hval 1 25 v1 rfl rfl) h1
  obtain ⟨A2, n2, c2, a2, rfl, hc2, hr2⟩ := open_slice_arg (en := ienc) Try.underlying25 (m := 1) (by kernel_rfl) (fun _ => rfl) (by omega) opens_int (hval 2 25 v2 rfl rfl) h2
  refine (law_NewMuseum H0 A0 n0 c0 a0 A1 n1 c1 a1 A2 n2 c2 a2 W hr0 hr1 hr2).mono fun e W' ⟨he, hb⟩ => ?_
  subst he
  refine ⟨_, rfl, law_post Try_laidOut_FnExactNewMuseum ?_ Try.underlying4 rfl rfl hW' rfl hb⟩
  rw [Try.params4]
  intro t ht
  have ht' : t = 35 ∨ t = 25 ∨ t = 25 := by simpa using ht
  rcases ht' with rfl | rfl | rfl
  all_goals exact ⟨by kernel_rfl, of_decide_eq_true (by kernel_rfl)⟩
set_option maxRecDepth 100000 in
theorem lifted_FnExactNewMuseum (os : Os) (started : os.Started) (H : Type) (enc : TypeId × Value → H) :
    ReturnsInHanded {} Try.checked os 4 .any (Rows.fnExactNewMuseumSpec.pre6 enc Try.prog Try.f4 Rows.fnExactNewMuseumRow.domain false) (Rows.fnExactNewMuseumSpec.post enc Try.prog Try.f4 false true false false) := by
  refine returnsInHanded_of_change (C := Try.checked) Try_own_FnExactNewMuseum started (by kernel_rfl) Try.func4
    (ChangeSpec.witness6 (enc := enc) (C := Try.checked) false ⟨#[], #[.agg #[.int .i64 0, .slice none 0 0], .slice none 0 0, .slice none 0 0], []⟩ 8 (by kernel_rfl) (by kernel_rfl) (by kernel_rfl) (by kernel_rfl)) ?_
  intro W base args ds gs before hval hW _ _
  exact contract_FnExactNewMuseum H enc W base args ds gs before hval hW
theorem holds_FnExactNewMuseum : Rows.FnExactNewMuseumSaid :=
  OpenClaim.holds_of_wide 4 Try.f4 rfl rfl rfl rfl rfl rfl rfl ⟨rfl, rfl, rfl, rfl, rfl⟩ rfl rfl rfl rfl rfl (by kernel_rfl) Try.func4 (by kernel_rfl)
    (of_decide_eq_true (by kernel_rfl)) (by unfold Func.isWrapper; first | (rw [if_pos (by decide +kernel)]; kernel_rfl) | (rw [if_neg (by decide +kernel)]; exact ⟨rfl, rfl⟩))
    (fun os started H enc _ => lifted_FnExactNewMuseum os started H enc)
end Go.Proofs.Ytkelmeemblmggaa
