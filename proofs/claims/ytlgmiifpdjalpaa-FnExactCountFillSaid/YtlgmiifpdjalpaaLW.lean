/- The walks of the laws on FillShifts and CountFill; no condition. -/
import Derived.Test.YtlgmiifpdjalpaaSF6
import Derived.Test.YtlgmiifpdjalpaaH2
import Derived.Test.YtlgmiifpdjalpaaS6
namespace Go.Proofs.Ytlgmiifpdjalpaa
set_option linter.unusedSimpArgs false
set_option linter.unusedVariables false
open Go.RowKit
theorem fillL_le (xs : List GShift) (rest : Int) : (fillL xs rest).length ≤ 1048576 := by
  unfold fillL
  split
  · rename_i hv; rw [fillS_out]; unfold fillV at hv; simp at hv; omega
  · simp
set_option maxRecDepth 100000 in
set_option maxHeartbeats 4000000 in
theorem law_FillShifts (A0 : Option Addr) (n0 c0 : Nat) (a0 : List GShift) (a1 : Int) (w : World) (hx0 : Rd w 3 A0 n0 (a0.flatMap GShift.enc)) :
    Calls Try.prog 14 #[.slice A0 n0 c0, .int .i64 a1] w fun e w' => e = .returned (.bool true) ∧ Ext w w' := by
  have hnn0 := hx0.2.1
  by_cases hq0 : n0 ≤ 1048576
  case neg =>
    go_enter Try.func14, Try.ntmps14
    go_wp2_with fail
    refine (laws_szShiftS _ _ _ _ _ (by omega) (by omega) hnn0).mono ?_
    rintro e _ ⟨he, rfl⟩
    rw [if_pos (by omega)] at he
    subst he
    go_wp2_with fail
    go_ret
    refine ⟨rfl, ?_⟩
    (repeat (first | exact Ext.refl _ | assumption | refine Ext.alloc ?_ _ | refine Ext.drew ?_ | refine Ext.drewN ?_ _ | refine Ext.setCell ?_ (by first | (simp; done) | (simp; omega)) _ | refine Ext.trans ?_ (by assumption)))
  have hn0 : n0 ≤ 1048576 := by omega
  go_enter Try.func14, Try.ntmps14
  go_wp2_with fail
  refine (laws_szShiftS _ _ _ _ _ (by omega) (by omega) hnn0).mono ?_
  rintro e _ ⟨he, rfl⟩
  rw [if_neg (by omega)] at he
  subst he
  go_wp2_with fail
  have e0 := Ext.refl w
  go_wp2_with fail
  refine (laws_toShiftS _ _ _ a0 _ (hx0.keep e0) hn0).mono ?_
  rintro e w1 ⟨gW_0, rfl, b1, oW_0⟩
  have e1 := e0.trans b1
  have z1 := b1.size
  clear b1 e0
  have at_oW_0 := At.of_own oW_0
  go_wp2_with fail
  refine (spec_FillShifts _ _ _ a0 a1 _ (Rd.of_own oW_0)).mono ?_
  rintro e w2 ⟨vW, rfl, b2, orW⟩
  have e2 := e1.trans b2
  have z2 := b2.size
  replace oW_0 := own_keep oW_0 b2
  clear b2 e1
  clear oW_0
  obtain ⟨AW, cW, rfl, _⟩ := own_form orW
  have at_orW := At.of_own orW
  go_wp2_with fail
  refine (laws_toShiftS _ _ _ a0 _ (hx0.keep e2) hn0).mono ?_
  rintro e w3 ⟨gX0, rfl, b3, oX0⟩
  have e3 := e2.trans b3
  have z3 := b3.size
  replace orW := own_keep orW b3
  clear b3 e2
  have at_oX0 := At.of_own oX0
  go_wp2_with fail
  refine (impl_FillShifts _ _ _ a0 a1 _ (Rd.of_own oX0)).mono ?_
  rintro e w4 ⟨vG, rfl, b4, orG⟩
  have e4 := e3.trans b4
  have z4 := b4.size
  replace orW := own_keep orW b4
  replace oX0 := own_keep oX0 b4
  clear b4 e3
  obtain ⟨AG, cG, rfl, _⟩ := own_form orG
  have at_orG := At.of_own orG
  go_wp2_with fail
  refine (laws_eqIntS _ _ _ _ _ _ _ _ (Rd.of_own orG) (Rd.of_own orW)).mono ?_
  rintro e w5 ⟨rfl, b5⟩
  have e5 := e4.trans b5
  have z5 := b5.size
  replace orW := own_keep orW b5
  replace oX0 := own_keep oX0 b5
  replace orG := own_keep orG b5
  clear b5 e4
  go_wp2_with fail
  refine (laws_toShiftS _ _ _ a0 _ (hx0.keep e5) hn0).mono ?_
  rintro e w6 ⟨gY0, rfl, b6, oY0⟩
  have e6 := e5.trans b6
  have z6 := b6.size
  replace orW := own_keep orW b6
  replace oX0 := own_keep oX0 b6
  replace orG := own_keep orG b6
  clear b6 e5
  have at_oY0 := At.of_own oY0
  go_wp2_with fail
  refine (laws_eqShiftS _ _ _ _ _ _ _ _ (Rd.of_own oX0) (Rd.of_own oY0)).mono ?_
  rintro e w7 ⟨rfl, b7⟩
  have e7 := e6.trans b7
  have z7 := b7.size
  replace orW := own_keep orW b7
  replace oX0 := own_keep oX0 b7
  replace orG := own_keep orG b7
  replace oY0 := own_keep oY0 b7
  clear b7 e6
  clear oY0
  have hLn : (fillL a0 a1).length ≤ 1048576 := fillL_le a0 a1
  go_wp2_with fail
  refine (laws_markShiftS _ _ _ _ _ _ _ oX0 hn0 (by omega) (by omega)).mono ?_
  rintro e w8 ⟨rfl, om8, hg8⟩
  have e8 := ext_kept e7 at_oX0 (by omega) hg8
  have z8 := hg8.size
  replace orW := own_kept orW at_orW at_oX0 (by omega) hg8
  replace orG := own_kept orG at_orG at_oX0 (by omega) hg8
  clear oX0 hg8 e7
  clear om8
  go_wp2_with fail
  refine (laws_eqIntS _ _ _ _ _ _ _ _ (Rd.of_own orG) (Rd.of_own orW)).mono ?_
  rintro e w9 ⟨rfl, b9⟩
  have e9 := e8.trans b9
  have z9 := b9.size
  replace orW := own_keep orW b9
  replace orG := own_keep orG b9
  clear b9 e8
  go_wp2_with fail
  refine (laws_markIntS _ _ _ _ _ _ _ orG hLn (by omega) (by omega)).mono ?_
  rintro e w10 ⟨rfl, om10, hg10⟩
  have e10 := ext_kept e9 at_orG (by omega) hg10
  have z10 := hg10.size
  replace orW := own_kept orW at_orW at_orG (by omega) hg10
  clear orG hg10 e9
  have orM := om10
  clear om10
  go_wp2_with fail
  refine (laws_heldIntS _ _ _ _ _ (Rd.of_own orM) hLn (by omega) (by omega)).mono ?_
  rintro e w11 ⟨rfl, b11⟩
  have e11 := e10.trans b11
  have z11 := b11.size
  replace orW := own_keep orW b11
  replace orM := own_keep orM b11
  clear b11 e10
  go_wp2_with fail
  refine (laws_toShiftS _ _ _ a0 _ (hx0.keep e11) hn0).mono ?_
  rintro e w12 ⟨gH_0, rfl, b12, oH_0⟩
  have e12 := e11.trans b12
  have z12 := b12.size
  replace orW := own_keep orW b12
  replace orM := own_keep orM b12
  clear b12 e11
  have at_oH_0 := At.of_own oH_0
  go_wp2_with fail
  refine (impl_FillShifts _ _ _ a0 a1 _ (Rd.of_own oH_0)).mono ?_
  rintro e w13 ⟨vH, rfl, b13, orH⟩
  have e13 := e12.trans b13
  have z13 := b13.size
  replace orW := own_keep orW b13
  replace orM := own_keep orM b13
  replace oH_0 := own_keep oH_0 b13
  clear b13 e12
  clear oH_0
  obtain ⟨AH, cH, rfl, _⟩ := own_form orH
  have at_orH := At.of_own orH
  go_wp2_with fail
  refine (laws_eqIntS _ _ _ _ _ _ _ _ (Rd.of_own orH) (Rd.of_own orW)).mono ?_
  rintro e w14 ⟨rfl, b14⟩
  have e14 := e13.trans b14
  have z14 := b14.size
  replace orW := own_keep orW b14
  replace orM := own_keep orM b14
  replace orH := own_keep orH b14
  clear b14 e13
  go_wp2_with fail
  refine (laws_heldIntS _ _ _ _ _ (Rd.of_own orM) hLn (by omega) (by omega)).mono ?_
  rintro e w15 ⟨rfl, b15⟩
  have e15 := e14.trans b15
  have z15 := b15.size
  replace orW := own_keep orW b15
  replace orM := own_keep orM b15
  replace orH := own_keep orH b15
  clear b15 e14
  go_wp2_with fail
  go_ret
  exact ⟨rfl, e15⟩
set_option maxRecDepth 100000 in
set_option maxHeartbeats 4000000 in
theorem law_CountFill (A0 : Option Addr) (n0 c0 : Nat) (a0 : List GShift) (a1 : Int) (w : World) (hx0 : Rd w 3 A0 n0 (a0.flatMap GShift.enc)) :
    Calls Try.prog 13 #[.slice A0 n0 c0, .int .i64 a1] w fun e w' => e = .returned (.bool true) ∧ Ext w w' := by
  have hnn0 := hx0.2.1
  by_cases hq0 : n0 ≤ 1048576
  case neg =>
    go_enter Try.func13, Try.ntmps13
    go_wp2_with fail
    refine (laws_szShiftS _ _ _ _ _ (by omega) (by omega) hnn0).mono ?_
    rintro e _ ⟨he, rfl⟩
    rw [if_pos (by omega)] at he
    subst he
    go_wp2_with fail
    go_ret
    refine ⟨rfl, ?_⟩
    (repeat (first | exact Ext.refl _ | assumption | refine Ext.alloc ?_ _ | refine Ext.drew ?_ | refine Ext.drewN ?_ _ | refine Ext.setCell ?_ (by first | (simp; done) | (simp; omega)) _ | refine Ext.trans ?_ (by assumption)))
  have hn0 : n0 ≤ 1048576 := by omega
  go_enter Try.func13, Try.ntmps13
  go_wp2_with fail
  refine (laws_szShiftS _ _ _ _ _ (by omega) (by omega) hnn0).mono ?_
  rintro e _ ⟨he, rfl⟩
  rw [if_neg (by omega)] at he
  subst he
  go_wp2_with fail
  have e0 := Ext.refl w
  go_wp2_with fail
  refine (laws_toShiftS _ _ _ a0 _ (hx0.keep e0) hn0).mono ?_
  rintro e w1 ⟨gW_0, rfl, b1, oW_0⟩
  have e1 := e0.trans b1
  have z1 := b1.size
  clear b1 e0
  have at_oW_0 := At.of_own oW_0
  go_wp2_with fail
  refine (spec_CountFill _ _ _ a0 a1 _ (Rd.of_own oW_0)).mono ?_
  rintro e w2 ⟨rfl, b2⟩
  have e2 := e1.trans b2
  have z2 := b2.size
  replace oW_0 := own_keep oW_0 b2
  clear b2 e1
  clear oW_0
  go_wp2_with fail
  refine (laws_toShiftS _ _ _ a0 _ (hx0.keep e2) hn0).mono ?_
  rintro e w3 ⟨gX0, rfl, b3, oX0⟩
  have e3 := e2.trans b3
  have z3 := b3.size
  clear b3 e2
  have at_oX0 := At.of_own oX0
  go_wp2_with fail
  refine (impl_CountFill _ _ _ a0 a1 _ (Rd.of_own oX0)).mono ?_
  rintro e w4 ⟨rfl, b4⟩
  have e4 := e3.trans b4
  have z4 := b4.size
  replace oX0 := own_keep oX0 b4
  clear b4 e3
  go_wp2_with fail
  refine (laws_toShiftS _ _ _ a0 _ (hx0.keep e4) hn0).mono ?_
  rintro e w5 ⟨gY0, rfl, b5, oY0⟩
  have e5 := e4.trans b5
  have z5 := b5.size
  replace oX0 := own_keep oX0 b5
  clear b5 e4
  have at_oY0 := At.of_own oY0
  go_wp2_with fail
  refine (laws_eqShiftS _ _ _ _ _ _ _ _ (Rd.of_own oX0) (Rd.of_own oY0)).mono ?_
  rintro e w6 ⟨rfl, b6⟩
  have e6 := e5.trans b6
  have z6 := b6.size
  replace oX0 := own_keep oX0 b6
  replace oY0 := own_keep oY0 b6
  clear b6 e5
  clear oY0
  go_wp2_with fail
  go_ret
  exact ⟨rfl, e6⟩
end Go.Proofs.Ytlgmiifpdjalpaa
