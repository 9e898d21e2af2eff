/- The law FnExactGuardWalk: the program's GuardWalk returns what the reference's returns, for every argument; no condition. -/
import Derived.Test.YtkelmeemblmggaaRows
import Derived.Test.YtkelmeemblmggaaNM4
namespace Go.Proofs.Ytkelmeemblmggaa
set_option linter.unusedSimpArgs false
set_option linter.unusedVariables false
open Go.ChangeShapes Go.WideShapes Go.ChangeAt Go.RowKit
theorem opens_Door : Opens Try.prog 77 GDoor.enc := by
  intro H enc w n cs x h
  obtain ⟨hl, hf⟩ := open_fields Try.underlying77 (by kernel_rfl) (by kernel_rfl) h
  obtain ⟨v0, n0, y0, e0, r0⟩ := hf 0 _ rfl
  obtain ⟨z0, rfl, _⟩ := int_of_trod Try.underlying3 r0
  obtain ⟨v1, n1, y1, e1, r1⟩ := hf 1 _ rfl
  obtain ⟨z1, rfl, _⟩ := int_of_trod Try.underlying3 r1
  exact ⟨⟨z0, z1⟩, by
    apply List.ext_getElem? ; intro i
    have hs : cs.length = 2 := hl
    match i with
    | 0 => rw [e0]; rfl
    | 1 => rw [e1]; rfl
    | i + 2 => rw [List.getElem?_eq_none (by omega), List.getElem?_eq_none (by simp [GDoor.enc])]⟩
theorem opens_int : Opens Try.prog 3 ienc := by
  intro H enc w n cs x h
  obtain ⟨z, hz, _⟩ := DataW.trod_int Try.underlying3 h
  exact ⟨z, hz⟩
set_option maxRecDepth 100000 in
theorem open_museum {H : Type} {enc : TypeId × Value → H} {W : World} {r : Reach} {b0 : Nat} {v : Value} {d : DataW H} {p : List MemPlace} (hv : Value.okWide Try.prog W r b0 48 v) (h : DataW.Trod enc Try.prog W 0 (fun _ => true) true 48 v d p) :
    ∃ (x : MV) (m : GMuseum), v = x.val ∧ MRd W x m := by
  obtain ⟨cs, rfl, _⟩ := okWide_struct Try.underlying48 hv
  obtain ⟨fuel, hf⟩ := h
  have hf' : DataW.trod enc Try.prog W 0 (fun _ => true) true fuel 48 cs.toList = some (d, p) := by simpa [Value.cells] using hf
  obtain ⟨ys, n', hn', hy, hlen, hyl, hg⟩ := DataW.trod_struct Try.underlying48 hf'
  have h7 : cs.toList.length = 7 := hlen.trans (by kernel_rfl)
  have hys : ys.length = 6 := hyl
  obtain ⟨k0, k1, k2, k3, k4, k5, k6, hcs⟩ : ∃ k0 k1 k2 k3 k4 k5 k6, cs.toList = [k0, k1, k2, k3, k4, k5, k6] := by
    match cs.toList, h7 with
    | [a, b, c, d, e, f, g], _ => exact ⟨a, b, c, d, e, f, g, rfl⟩
  rw [hcs] at hg
  have at_ : ∀ j, j < 6 → ∃ y, ys[j]? = some y := fun j hj => ⟨ys[j]'(by omega), List.getElem?_eq_getElem (by omega)⟩
  have cH : Try.prog.cellsOf 35 = 2 := by kernel_rfl
  have cI : Try.prog.cellsOf 3 = 1 := by kernel_rfl
  have cS : Try.prog.cellsOf 25 = 1 := by kernel_rfl
  have cE : Try.prog.cellsOf 46 = 1 := by kernel_rfl
  obtain ⟨y0, e0⟩ := at_ 0 (by omega)
  obtain ⟨y1, e1⟩ := at_ 1 (by omega)
  obtain ⟨y2, e2⟩ := at_ 2 (by omega)
  obtain ⟨y3, e3⟩ := at_ 3 (by omega)
  obtain ⟨y4, e4⟩ := at_ 4 (by omega)
  obtain ⟨y5, e5⟩ := at_ 5 (by omega)
  have g0 : DataW.trod enc Try.prog W 0 (fun _ => true) true n' 35 [k0, k1] = some y0 := by have := hg 0 _ rfl; simp only [cH, e0] at this; exact this
  have g1 : DataW.trod enc Try.prog W 0 (fun _ => true) true n' 25 [k2] = some y1 := by have := hg 1 _ rfl; simp only [cS, e1] at this; exact this
  have g2 : DataW.trod enc Try.prog W 0 (fun _ => true) true n' 25 [k3] = some y2 := by have := hg 2 _ rfl; simp only [cS, e2] at this; exact this
  have g3 : DataW.trod enc Try.prog W 0 (fun _ => true) true n' 25 [k4] = some y3 := by have := hg 3 _ rfl; simp only [cS, e3] at this; exact this
  have g4 : DataW.trod enc Try.prog W 0 (fun _ => true) true n' 3 [k5] = some y4 := by have := hg 4 _ rfl; simp only [cI, e4] at this; exact this
  have g5 : DataW.trod enc Try.prog W 0 (fun _ => true) true n' 46 [k6] = some y5 := by have := hg 5 _ rfl; simp only [cE, e5] at this; exact this
  obtain ⟨hl, hh⟩ := open_fields Try.underlying35 (by kernel_rfl) (by kernel_rfl) g0
  obtain ⟨v0, m0, z0, q0, r0⟩ := hh 0 _ rfl
  obtain ⟨v1, m1, z1, q1, r1⟩ := hh 1 _ rfl
  have q0' : k0 = v0 := by simpa using q0
  have q1' : k1 = v1 := by simpa using q1
  subst q0' q1'
  obtain ⟨Hh, rfl, _⟩ := int_of_trod Try.underlying3 r0
  obtain ⟨A0, n0, c0, ds, rfl, hc0, hr0⟩ := open_row (en := GDoor.enc) (m := 2) Try.underlying33 (by kernel_rfl) (fun _ => rfl) (by omega) opens_Door r1
  obtain ⟨A1, n1, c1, fs, rfl, hc1, hr1⟩ := open_row (en := ienc) (m := 1) Try.underlying25 (by kernel_rfl) (fun _ => rfl) (by omega) opens_int g1
  obtain ⟨A2, n2, c2, ps, rfl, hc2, hr2⟩ := open_row (en := ienc) (m := 1) Try.underlying25 (by kernel_rfl) (fun _ => rfl) (by omega) opens_int g2
  obtain ⟨A3, n3, c3, gs, rfl, hc3, hr3⟩ := open_row (en := ienc) (m := 1) Try.underlying25 (by kernel_rfl) (fun _ => rfl) (by omega) opens_int g3
  obtain ⟨day, rfl, _⟩ := int_of_trod Try.underlying3 g4
  obtain ⟨A4, n4, c4, rs, rfl, hc4, hr4⟩ := open_row (en := GEntry.enc) (m := 3) Try.underlying46 (by kernel_rfl) (fun _ => rfl) (by omega) opens_Entry g5
  refine ⟨⟨Hh, ⟨A0, n0, c0⟩, ⟨A1, n1, c1⟩, ⟨A2, n2, c2⟩, ⟨A3, n3, c3⟩, day, ⟨A4, n4, c4⟩⟩, ⟨Hh, ds, fs, ps, gs, day, rs⟩, ?_, ⟨rfl, rfl, hr0, hr1, hr2, hr3, hr4⟩⟩
  have h1 : cs = #[.int .i64 Hh, .slice A0 n0 c0, .slice A1 n1 c1, .slice A2 n2 c2, .slice A3 n3 c3, .int .i64 day, .slice A4 n4 c4] := by
    apply Array.ext'
    rw [hcs]
  rw [h1]; rfl
theorem Try_own_FnExactGuardWalk : ownKnob Try.prog.godebug = none := by kernel_rfl
theorem Try_laidOut_FnExactGuardWalk : laidOutB Try.prog = true := by kernel_rfl
set_option maxRecDepth 100000 in
theorem contract_FnExactGuardWalk (H : Type) (enc : TypeId × Value → H) (W : World) (base : Nat) (args : Array Value) (ds gs : List (DataW H)) (before : List MemPlace)
    (hval : ∀ (j : Nat) t v, Try.f6.params[j]? = some t → args[j]? = some v → Value.okWide Try.prog W .any base t v)
    (hW : DataW.Whole enc Try.prog Try.f6.params.toList Rows.fnExactGuardWalkSpec.vars false W args.toList ds gs before) :
    Calls Try.prog 6 args W fun e W' => ∃ v, e = .returned v ∧ Rows.fnExactGuardWalkSpec.post enc Try.prog Try.f6 false true false false W args v W' := by
  have hW' := hW
  obtain ⟨p, q, hA0, hV, rfl, hfz, hnd⟩ := hW
  have hA : DataW.TrodAll enc Try.prog W 0 (fun _ => true) true Try.f6.params.toList args.toList ds p := hA0
  rw [Try.params6] at hA hval
  obtain ⟨v0, vs0, d0, ds0, p0, q0, hargs, rfl, rfl, h0, r0⟩ := trodAll_cons hA
  obtain ⟨v1, vs1, d1, ds1, p1, q1, rfl, rfl, rfl, h1, r1⟩ := trodAll_cons r0
  obtain ⟨v2, vs2, d2, ds2, p2, q2, rfl, rfl, rfl, h2, r2⟩ := trodAll_cons r1
  obtain ⟨rfl, rfl, rfl⟩ := trodAll_nil r2
  obtain rfl : args = #[v0, v1, v2] := by cases args; simp_all
  obtain ⟨rfl, rfl⟩ := trodVars_none hV
  obtain ⟨v0, a0, rfl, hr0⟩ := open_museum (hval 0 48 v0 rfl rfl) h0
  obtain ⟨a1, rfl, _, _, wf1⟩ := open_int Try.underlying3 (hval 1 3 v1 rfl rfl) h1
  obtain ⟨a2, rfl, _, _, wf2⟩ := open_int Try.underlying3 (hval 2 3 v2 rfl rfl) h2
  refine (law_GuardWalk v0 a0 a1 a2 W hr0).mono fun e W' ⟨he, hb⟩ => ?_
  subst he
  refine ⟨_, rfl, law_post Try_laidOut_FnExactGuardWalk ?_ Try.underlying4 rfl rfl hW' rfl hb⟩
  rw [Try.params6]
  intro t ht
  have ht' : t = 48 ∨ t = 3 ∨ t = 3 := by simpa using ht
  rcases ht' with rfl | rfl | rfl
  all_goals exact ⟨by kernel_rfl, of_decide_eq_true (by kernel_rfl)⟩
set_option maxRecDepth 100000 in
theorem lifted_FnExactGuardWalk (os : Os) (started : os.Started) (H : Type) (enc : TypeId × Value → H) :
    ReturnsInHanded {} Try.checked os 6 .any (Rows.fnExactGuardWalkSpec.pre6 enc Try.prog Try.f6 Rows.fnExactGuardWalkRow.domain false) (Rows.fnExactGuardWalkSpec.post enc Try.prog Try.f6 false true false false) := by
  refine returnsInHanded_of_change (C := Try.checked) Try_own_FnExactGuardWalk started (by kernel_rfl) Try.func6
    (ChangeSpec.witness6 (enc := enc) (C := Try.checked) false ⟨#[], #[.agg #[.int .i64 0, .slice none 0 0, .slice none 0 0, .slice none 0 0, .slice none 0 0, .int .i64 0, .slice none 0 0], .int .i64 0, .int .i64 0], []⟩ 8 (by kernel_rfl) (by kernel_rfl) (by kernel_rfl) (by kernel_rfl)) ?_
  intro W base args ds gs before hval hW _ _
  exact contract_FnExactGuardWalk H enc W base args ds gs before hval hW
theorem holds_FnExactGuardWalk : Rows.FnExactGuardWalkSaid :=
  OpenClaim.holds_of_wide 6 Try.f6 rfl rfl rfl rfl rfl rfl rfl ⟨rfl, rfl, rfl, rfl, rfl⟩ rfl rfl rfl rfl rfl (by kernel_rfl) Try.func6 (by kernel_rfl)
    (of_decide_eq_true (by kernel_rfl)) (by unfold Func.isWrapper; first | (rw [if_pos (by decide +kernel)]; kernel_rfl) | (rw [if_neg (by decide +kernel)]; exact ⟨rfl, rfl⟩))
    (fun os started H enc _ => lifted_FnExactGuardWalk os started H enc)
end Go.Proofs.Ytkelmeemblmggaa
