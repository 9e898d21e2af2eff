/- The walk of the law on Suspects; no condition. -/
import Derived.Test.YtlgmiifpdjalpaaSG3
import Derived.Test.YtlgmiifpdjalpaaH2
import Derived.Test.YtlgmiifpdjalpaaS6
namespace Go.Proofs.Ytlgmiifpdjalpaa
set_option linter.unusedSimpArgs false
set_option linter.unusedVariables false
open Go.RowKit
set_option maxRecDepth 100000 in
set_option maxHeartbeats 4000000 in
theorem law_Suspects (A0 : Option Addr) (n0 c0 : Nat) (a0 : List GStay) (a1 : Int) (A2 : Option Addr) (n2 c2 : Nat) (a2 : List GCheck) (a3 : Int) (w : World) (hx0 : Rd w 4 A0 n0 (a0.flatMap GStay.enc)) (hx2 : Rd w 3 A2 n2 (a2.flatMap GCheck.enc)) :
    Calls Try.prog 16 #[.slice A0 n0 c0, .int .i64 a1, .slice A2 n2 c2, .int .i64 a3] w fun e w' => e = .returned (.bool true) ∧ Ext w w' := by
  have hnn0 := hx0.2.1
  have hnn2 := hx2.2.1
  by_cases hq0 : n0 ≤ 1048576
  case neg =>
    go_enter Try.func16, Try.ntmps16
    go_wp2_with fail
    refine (laws_szStayS _ _ _ _ _ (by omega) (by omega) hnn0).mono ?_
    rintro e _ ⟨he, rfl⟩
    rw [if_pos (by omega)] at he
    subst he
    go_wp2_with fail
    go_ret
    refine ⟨rfl, ?_⟩
    (repeat (first | exact Ext.refl _ | assumption | refine Ext.alloc ?_ _ | refine Ext.drew ?_ | refine Ext.drewN ?_ _ | refine Ext.setCell ?_ (by first | (simp; done) | (simp; omega)) _ | refine Ext.trans ?_ (by assumption)))
  by_cases hq1 : n0 + n2 ≤ 1048576
  case neg =>
    go_enter Try.func16, Try.ntmps16
    go_wp2_with fail
    refine (laws_szStayS _ _ _ _ _ (by omega) (by omega) hnn0).mono ?_
    rintro e _ ⟨he, rfl⟩
    rw [if_neg (by omega)] at he
    subst he
    go_wp2_with fail
    refine (laws_szCheckS _ _ _ _ _ (by omega) (by omega) hnn2).mono ?_
    rintro e _ ⟨he, rfl⟩
    rw [if_pos (by omega)] at he
    subst he
    go_wp2_with fail
    go_ret
    refine ⟨rfl, ?_⟩
    (repeat (first | exact Ext.refl _ | assumption | refine Ext.alloc ?_ _ | refine Ext.drew ?_ | refine Ext.drewN ?_ _ | refine Ext.setCell ?_ (by first | (simp; done) | (simp; omega)) _ | refine Ext.trans ?_ (by assumption)))
  have hn0 : n0 ≤ 1048576 := by omega
  have hn2 : n2 ≤ 1048576 := by omega
  go_enter Try.func16, Try.ntmps16
  go_wp2_with fail
  refine (laws_szStayS _ _ _ _ _ (by omega) (by omega) hnn0).mono ?_
  rintro e _ ⟨he, rfl⟩
  rw [if_neg (by omega)] at he
  subst he
  go_wp2_with fail
  refine (laws_szCheckS _ _ _ _ _ (by omega) (by omega) hnn2).mono ?_
  rintro e _ ⟨he, rfl⟩
  rw [if_neg (by omega)] at he
  subst he
  go_wp2_with fail
  have e0 := Ext.refl w
  go_wp2_with fail
  refine (laws_toStayS _ _ _ a0 _ (hx0.keep e0) hn0).mono ?_
  rintro e w1 ⟨gW_0, rfl, b1, oW_0⟩
  have e1 := e0.trans b1
  have z1 := b1.size
  clear b1 e0
  have at_oW_0 := At.of_own oW_0
  go_wp2_with fail
  refine (laws_toCheckS _ _ _ a2 _ (hx2.keep e1) hn2).mono ?_
  rintro e w2 ⟨gW_2, rfl, b2, oW_2⟩
  have e2 := e1.trans b2
  have z2 := b2.size
  replace oW_0 := own_keep oW_0 b2
  clear b2 e1
  have at_oW_2 := At.of_own oW_2
  go_wp2_with fail
  refine (spec_Suspects _ _ _ a0 a1 _ _ _ a2 a3 _ (Rd.of_own oW_0) (Rd.of_own oW_2) hn0).mono ?_
  rintro e w3 ⟨vW, rfl, b3, orW⟩
  have e3 := e2.trans b3
  have z3 := b3.size
  replace oW_0 := own_keep oW_0 b3
  replace oW_2 := own_keep oW_2 b3
  clear b3 e2
  clear oW_0
  clear oW_2
  obtain ⟨AW, cW, rfl, _⟩ := own_form orW
  have at_orW := At.of_own orW
  go_wp2_with fail
  refine (laws_toStayS _ _ _ a0 _ (hx0.keep e3) hn0).mono ?_
  rintro e w4 ⟨gX0, rfl, b4, oX0⟩
  have e4 := e3.trans b4
  have z4 := b4.size
  replace orW := own_keep orW b4
  clear b4 e3
  have at_oX0 := At.of_own oX0
  go_wp2_with fail
  refine (laws_toCheckS _ _ _ a2 _ (hx2.keep e4) hn2).mono ?_
  rintro e w5 ⟨gX2, rfl, b5, oX2⟩
  have e5 := e4.trans b5
  have z5 := b5.size
  replace orW := own_keep orW b5
  replace oX0 := own_keep oX0 b5
  clear b5 e4
  have at_oX2 := At.of_own oX2
  go_wp2_with fail
  refine (impl_Suspects _ _ _ a0 a1 _ _ _ a2 a3 _ (Rd.of_own oX0) (Rd.of_own oX2) hn0).mono ?_
  rintro e w6 ⟨vG, rfl, b6, orG⟩
  have e6 := e5.trans b6
  have z6 := b6.size
  replace orW := own_keep orW b6
  replace oX0 := own_keep oX0 b6
  replace oX2 := own_keep oX2 b6
  clear b6 e5
  obtain ⟨AG, cG, rfl, _⟩ := own_form orG
  have at_orG := At.of_own orG
  go_wp2_with fail
  refine (laws_eqIntS _ _ _ _ _ _ _ _ (Rd.of_own orG) (Rd.of_own orW)).mono ?_
  rintro e w7 ⟨rfl, b7⟩
  have e7 := e6.trans b7
  have z7 := b7.size
  replace orW := own_keep orW b7
  replace oX0 := own_keep oX0 b7
  replace oX2 := own_keep oX2 b7
  replace orG := own_keep orG b7
  clear b7 e6
  go_wp2_with fail
  refine (laws_toStayS _ _ _ a0 _ (hx0.keep e7) hn0).mono ?_
  rintro e w8 ⟨gY0, rfl, b8, oY0⟩
  have e8 := e7.trans b8
  have z8 := b8.size
  replace orW := own_keep orW b8
  replace oX0 := own_keep oX0 b8
  replace oX2 := own_keep oX2 b8
  replace orG := own_keep orG b8
  clear b8 e7
  have at_oY0 := At.of_own oY0
  go_wp2_with fail
  refine (laws_eqStayS _ _ _ _ _ _ _ _ (Rd.of_own oX0) (Rd.of_own oY0)).mono ?_
  rintro e w9 ⟨rfl, b9⟩
  have e9 := e8.trans b9
  have z9 := b9.size
  replace orW := own_keep orW b9
  replace oX0 := own_keep oX0 b9
  replace oX2 := own_keep oX2 b9
  replace orG := own_keep orG b9
  replace oY0 := own_keep oY0 b9
  clear b9 e8
  clear oY0
  go_wp2_with fail
  refine (laws_toCheckS _ _ _ a2 _ (hx2.keep e9) hn2).mono ?_
  rintro e w10 ⟨gY2, rfl, b10, oY2⟩
  have e10 := e9.trans b10
  have z10 := b10.size
  replace orW := own_keep orW b10
  replace oX0 := own_keep oX0 b10
  replace oX2 := own_keep oX2 b10
  replace orG := own_keep orG b10
  clear b10 e9
  have at_oY2 := At.of_own oY2
  go_wp2_with fail
  refine (laws_eqCheckS _ _ _ _ _ _ _ _ (Rd.of_own oX2) (Rd.of_own oY2)).mono ?_
  rintro e w11 ⟨rfl, b11⟩
  have e11 := e10.trans b11
  have z11 := b11.size
  replace orW := own_keep orW b11
  replace oX0 := own_keep oX0 b11
  replace oX2 := own_keep oX2 b11
  replace orG := own_keep orG b11
  replace oY2 := own_keep oY2 b11
  clear b11 e10
  clear oY2
  have hLn : (suspL a0 a1 a2 a3).length ≤ 1048576 := Nat.le_trans (suspL_len a0 a1 a2 a3) (by rw [hx0.len GStay.len (by omega)]; exact hn0)
  go_wp2_with fail
  refine (laws_markStayS _ _ _ _ _ _ _ oX0 hn0 (by omega) (by omega)).mono ?_
  rintro e w12 ⟨rfl, om12, hg12⟩
  have e12 := ext_kept e11 at_oX0 (by omega) hg12
  have z12 := hg12.size
  replace orW := own_kept orW at_orW at_oX0 (by omega) hg12
  replace orG := own_kept orG at_orG at_oX0 (by omega) hg12
  replace oX2 := own_kept oX2 at_oX2 at_oX0 (by omega) hg12
  clear oX0 hg12 e11
  clear om12
  go_wp2_with fail
  refine (laws_markCheckS _ _ _ _ _ _ _ oX2 hn2 (by omega) (by omega)).mono ?_
  rintro e w13 ⟨rfl, om13, hg13⟩
  have e13 := ext_kept e12 at_oX2 (by omega) hg13
  have z13 := hg13.size
  replace orW := own_kept orW at_orW at_oX2 (by omega) hg13
  replace orG := own_kept orG at_orG at_oX2 (by omega) hg13
  clear oX2 hg13 e12
  clear om13
  go_wp2_with fail
  refine (laws_eqIntS _ _ _ _ _ _ _ _ (Rd.of_own orG) (Rd.of_own orW)).mono ?_
  rintro e w14 ⟨rfl, b14⟩
  have e14 := e13.trans b14
  have z14 := b14.size
  replace orW := own_keep orW b14
  replace orG := own_keep orG b14
  clear b14 e13
  go_wp2_with fail
  refine (laws_markIntS _ _ _ _ _ _ _ orG hLn (by omega) (by omega)).mono ?_
  rintro e w15 ⟨rfl, om15, hg15⟩
  have e15 := ext_kept e14 at_orG (by omega) hg15
  have z15 := hg15.size
  replace orW := own_kept orW at_orW at_orG (by omega) hg15
  clear orG hg15 e14
  have orM := om15
  clear om15
  go_wp2_with fail
  refine (laws_heldIntS _ _ _ _ _ (Rd.of_own orM) hLn (by omega) (by omega)).mono ?_
  rintro e w16 ⟨rfl, b16⟩
  have e16 := e15.trans b16
  have z16 := b16.size
  replace orW := own_keep orW b16
  replace orM := own_keep orM b16
  clear b16 e15
  go_wp2_with fail
  refine (laws_toStayS _ _ _ a0 _ (hx0.keep e16) hn0).mono ?_
  rintro e w17 ⟨gH_0, rfl, b17, oH_0⟩
  have e17 := e16.trans b17
  have z17 := b17.size
  replace orW := own_keep orW b17
  replace orM := own_keep orM b17
  clear b17 e16
  have at_oH_0 := At.of_own oH_0
  go_wp2_with fail
  refine (laws_toCheckS _ _ _ a2 _ (hx2.keep e17) hn2).mono ?_
  rintro e w18 ⟨gH_2, rfl, b18, oH_2⟩
  have e18 := e17.trans b18
  have z18 := b18.size
  replace orW := own_keep orW b18
  replace orM := own_keep orM b18
  replace oH_0 := own_keep oH_0 b18
  clear b18 e17
  have at_oH_2 := At.of_own oH_2
  go_wp2_with fail
  refine (impl_Suspects _ _ _ a0 a1 _ _ _ a2 a3 _ (Rd.of_own oH_0) (Rd.of_own oH_2) hn0).mono ?_
  rintro e w19 ⟨vH, rfl, b19, orH⟩
  have e19 := e18.trans b19
  have z19 := b19.size
  replace orW := own_keep orW b19
  replace orM := own_keep orM b19
  replace oH_0 := own_keep oH_0 b19
  replace oH_2 := own_keep oH_2 b19
  clear b19 e18
  clear oH_0
  clear oH_2
  obtain ⟨AH, cH, rfl, _⟩ := own_form orH
  have at_orH := At.of_own orH
  go_wp2_with fail
  refine (laws_eqIntS _ _ _ _ _ _ _ _ (Rd.of_own orH) (Rd.of_own orW)).mono ?_
  rintro e w20 ⟨rfl, b20⟩
  have e20 := e19.trans b20
  have z20 := b20.size
  replace orW := own_keep orW b20
  replace orM := own_keep orM b20
  replace orH := own_keep orH b20
  clear b20 e19
  go_wp2_with fail
  refine (laws_heldIntS _ _ _ _ _ (Rd.of_own orM) hLn (by omega) (by omega)).mono ?_
  rintro e w21 ⟨rfl, b21⟩
  have e21 := e20.trans b21
  have z21 := b21.size
  replace orW := own_keep orW b21
  replace orM := own_keep orM b21
  replace orH := own_keep orH b21
  clear b21 e20
  go_wp2_with fail
  go_ret
  exact ⟨rfl, e21⟩
end Go.Proofs.Ytlgmiifpdjalpaa
