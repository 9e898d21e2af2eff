/- The walk of the law on PlanOk; no condition. -/
import Derived.Test.YtlgmiifpdjalpaaS10
import Derived.Test.YtlgmiifpdjalpaaH2
namespace Go.Proofs.Ytlgmiifpdjalpaa
open Go.RowKit
set_option maxRecDepth 100000 in
set_option maxHeartbeats 4000000 in
theorem law_PlanOk (A0 : Option Addr) (n0 c0 : Nat) (a0 : List GLoan) (A1 : Option Addr) (n1 c1 : Nat) (a1 : List GClimate) (A2 : Option Addr) (n2 c2 : Nat) (a2 : List Int) (A3 : Option Addr) (n3 c3 : Nat) (a3 : List Int) (w : World) (hx0 : Rd w 4 A0 n0 (a0.flatMap GLoan.enc)) (hx1 : Rd w 3 A1 n1 (a1.flatMap GClimate.enc)) (hx2 : Rd w 1 A2 n2 (a2.flatMap ienc)) (hx3 : Rd w 1 A3 n3 (a3.flatMap ienc)) :
    Calls Try.prog 8 #[.slice A0 n0 c0, .slice A1 n1 c1, .slice A2 n2 c2, .slice A3 n3 c3] w fun e w' => e = .returned (.bool true) ∧ Ext w w' := by
  have hnn0 := hx0.2.1
  have hnn1 := hx1.2.1
  have hnn2 := hx2.2.1
  have hnn3 := hx3.2.1
  by_cases hq0 : n2 ≤ 1048576
  case neg =>
    go_enter Try.func8, Try.ntmps8
    go_wp2_with fail
    go_ret
    refine ⟨rfl, ?_⟩
    (repeat (first | exact Ext.refl _ | assumption | refine Ext.alloc ?_ _ | refine Ext.drew ?_ | refine Ext.drewN ?_ _ | refine Ext.setCell ?_ (by first | (simp; done) | (simp; omega)) _ | refine Ext.trans ?_ (by assumption)))
  by_cases hq1 : n3 ≤ 1048576
  case neg =>
    go_enter Try.func8, Try.ntmps8
    go_wp2_with fail
    go_ret
    refine ⟨rfl, ?_⟩
    (repeat (first | exact Ext.refl _ | assumption | refine Ext.alloc ?_ _ | refine Ext.drew ?_ | refine Ext.drewN ?_ _ | refine Ext.setCell ?_ (by first | (simp; done) | (simp; omega)) _ | refine Ext.trans ?_ (by assumption)))
  by_cases hq2 : n0 ≤ 1048576
  case neg =>
    go_enter Try.func8, Try.ntmps8
    go_wp2_with fail
    refine (laws_szLoanS _ _ _ _ _ (by omega) (by omega) hnn0).mono ?_
    rintro e _ ⟨he, rfl⟩
    rw [if_pos (by omega)] at he
    subst he
    go_wp2_with fail
    go_ret
    refine ⟨rfl, ?_⟩
    (repeat (first | exact Ext.refl _ | assumption | refine Ext.alloc ?_ _ | refine Ext.drew ?_ | refine Ext.drewN ?_ _ | refine Ext.setCell ?_ (by first | (simp; done) | (simp; omega)) _ | refine Ext.trans ?_ (by assumption)))
  by_cases hq3 : n0 + n1 ≤ 1048576
  case neg =>
    go_enter Try.func8, Try.ntmps8
    go_wp2_with fail
    refine (laws_szLoanS _ _ _ _ _ (by omega) (by omega) hnn0).mono ?_
    rintro e _ ⟨he, rfl⟩
    rw [if_neg (by omega)] at he
    subst he
    go_wp2_with fail
    refine (laws_szClimateS _ _ _ _ _ (by omega) (by omega) hnn1).mono ?_
    rintro e _ ⟨he, rfl⟩
    rw [if_pos (by omega)] at he
    subst he
    go_wp2_with fail
    go_ret
    refine ⟨rfl, ?_⟩
    (repeat (first | exact Ext.refl _ | assumption | refine Ext.alloc ?_ _ | refine Ext.drew ?_ | refine Ext.drewN ?_ _ | refine Ext.setCell ?_ (by first | (simp; done) | (simp; omega)) _ | refine Ext.trans ?_ (by assumption)))
  have hn0 : n0 ≤ 1048576 := by omega
  have hn1 : n1 ≤ 1048576 := by omega
  have hn2 : n2 ≤ 1048576 := by omega
  have hn3 : n3 ≤ 1048576 := by omega
  go_enter Try.func8, Try.ntmps8
  go_wp2_with fail
  refine (laws_szLoanS _ _ _ _ _ (by omega) (by omega) hnn0).mono ?_
  rintro e _ ⟨he, rfl⟩
  rw [if_neg (by omega)] at he
  subst he
  go_wp2_with fail
  refine (laws_szClimateS _ _ _ _ _ (by omega) (by omega) hnn1).mono ?_
  rintro e _ ⟨he, rfl⟩
  rw [if_neg (by omega)] at he
  subst he
  go_wp2_with fail
  have e0 := Ext.refl w
  go_wp2_with fail
  refine (laws_toLoanS _ _ _ a0 _ (hx0.keep e0) hn0).mono ?_
  rintro e w1 ⟨gW_0, rfl, b1, oW_0⟩
  have e1 := e0.trans b1
  have z1 := b1.size
  clear b1 e0
  have at_oW_0 := At.of_own oW_0
  go_wp2_with fail
  refine (laws_toClimateS _ _ _ a1 _ (hx1.keep e1) hn1).mono ?_
  rintro e w2 ⟨gW_1, rfl, b2, oW_1⟩
  have e2 := e1.trans b2
  have z2 := b2.size
  replace oW_0 := own_keep oW_0 b2
  clear b2 e1
  have at_oW_1 := At.of_own oW_1
  go_wp2_with fail
  refine (laws_toIntS _ _ _ a2 _ (hx2.keep e2) hn2).mono ?_
  rintro e w3 ⟨gW_2, rfl, b3, oW_2⟩
  have e3 := e2.trans b3
  have z3 := b3.size
  replace oW_0 := own_keep oW_0 b3
  replace oW_1 := own_keep oW_1 b3
  clear b3 e2
  have at_oW_2 := At.of_own oW_2
  go_wp2_with fail
  refine (laws_toIntS _ _ _ a3 _ (hx3.keep e3) hn3).mono ?_
  rintro e w4 ⟨gW_3, rfl, b4, oW_3⟩
  have e4 := e3.trans b4
  have z4 := b4.size
  replace oW_0 := own_keep oW_0 b4
  replace oW_1 := own_keep oW_1 b4
  replace oW_2 := own_keep oW_2 b4
  clear b4 e3
  have at_oW_3 := At.of_own oW_3
  go_wp2_with fail
  refine (spec_PlanOk _ _ _ a0 _ _ _ a1 _ _ _ a2 _ _ _ a3 _ (Rd.of_own oW_0) (Rd.of_own oW_1) (Rd.of_own oW_2) (Rd.of_own oW_3)).mono ?_
  rintro e w5 ⟨rfl, b5⟩
  have e5 := e4.trans b5
  have z5 := b5.size
  replace oW_0 := own_keep oW_0 b5
  replace oW_1 := own_keep oW_1 b5
  replace oW_2 := own_keep oW_2 b5
  replace oW_3 := own_keep oW_3 b5
  clear b5 e4
  clear oW_0
  clear oW_1
  clear oW_2
  clear oW_3
  go_wp2_with fail
  refine (laws_toLoanS _ _ _ a0 _ (hx0.keep e5) hn0).mono ?_
  rintro e w6 ⟨gX0, rfl, b6, oX0⟩
  have e6 := e5.trans b6
  have z6 := b6.size
  clear b6 e5
  have at_oX0 := At.of_own oX0
  go_wp2_with fail
  refine (laws_toClimateS _ _ _ a1 _ (hx1.keep e6) hn1).mono ?_
  rintro e w7 ⟨gX1, rfl, b7, oX1⟩
  have e7 := e6.trans b7
  have z7 := b7.size
  replace oX0 := own_keep oX0 b7
  clear b7 e6
  have at_oX1 := At.of_own oX1
  go_wp2_with fail
  refine (laws_toIntS _ _ _ a2 _ (hx2.keep e7) hn2).mono ?_
  rintro e w8 ⟨gX2, rfl, b8, oX2⟩
  have e8 := e7.trans b8
  have z8 := b8.size
  replace oX0 := own_keep oX0 b8
  replace oX1 := own_keep oX1 b8
  clear b8 e7
  have at_oX2 := At.of_own oX2
  go_wp2_with fail
  refine (laws_toIntS _ _ _ a3 _ (hx3.keep e8) hn3).mono ?_
  rintro e w9 ⟨gX3, rfl, b9, oX3⟩
  have e9 := e8.trans b9
  have z9 := b9.size
  replace oX0 := own_keep oX0 b9
  replace oX1 := own_keep oX1 b9
  replace oX2 := own_keep oX2 b9
  clear b9 e8
  have at_oX3 := At.of_own oX3
  go_wp2_with fail
  refine (impl_PlanOk_s _ _ _ a0 _ _ _ a1 _ _ _ a2 _ _ _ a3 _ (Rd.of_own oX0) (Rd.of_own oX1) (Rd.of_own oX2) (Rd.of_own oX3)).mono ?_
  rintro e w10 ⟨rfl, b10⟩
  have e10 := e9.trans b10
  have z10 := b10.size
  replace oX0 := own_keep oX0 b10
  replace oX1 := own_keep oX1 b10
  replace oX2 := own_keep oX2 b10
  replace oX3 := own_keep oX3 b10
  clear b10 e9
  go_wp2_with fail
  refine (laws_toLoanS _ _ _ a0 _ (hx0.keep e10) hn0).mono ?_
  rintro e w11 ⟨gY0, rfl, b11, oY0⟩
  have e11 := e10.trans b11
  have z11 := b11.size
  replace oX0 := own_keep oX0 b11
  replace oX1 := own_keep oX1 b11
  replace oX2 := own_keep oX2 b11
  replace oX3 := own_keep oX3 b11
  clear b11 e10
  have at_oY0 := At.of_own oY0
  go_wp2_with fail
  refine (laws_eqLoanS _ _ _ _ _ _ _ _ (Rd.of_own oX0) (Rd.of_own oY0)).mono ?_
  rintro e w12 ⟨rfl, b12⟩
  have e12 := e11.trans b12
  have z12 := b12.size
  replace oX0 := own_keep oX0 b12
  replace oX1 := own_keep oX1 b12
  replace oX2 := own_keep oX2 b12
  replace oX3 := own_keep oX3 b12
  replace oY0 := own_keep oY0 b12
  clear b12 e11
  clear oY0
  go_wp2_with fail
  refine (laws_toClimateS _ _ _ a1 _ (hx1.keep e12) hn1).mono ?_
  rintro e w13 ⟨gY1, rfl, b13, oY1⟩
  have e13 := e12.trans b13
  have z13 := b13.size
  replace oX0 := own_keep oX0 b13
  replace oX1 := own_keep oX1 b13
  replace oX2 := own_keep oX2 b13
  replace oX3 := own_keep oX3 b13
  clear b13 e12
  have at_oY1 := At.of_own oY1
  go_wp2_with fail
  refine (laws_eqClimateS _ _ _ _ _ _ _ _ (Rd.of_own oX1) (Rd.of_own oY1)).mono ?_
  rintro e w14 ⟨rfl, b14⟩
  have e14 := e13.trans b14
  have z14 := b14.size
  replace oX0 := own_keep oX0 b14
  replace oX1 := own_keep oX1 b14
  replace oX2 := own_keep oX2 b14
  replace oX3 := own_keep oX3 b14
  replace oY1 := own_keep oY1 b14
  clear b14 e13
  clear oY1
  go_wp2_with fail
  refine (laws_toIntS _ _ _ a2 _ (hx2.keep e14) hn2).mono ?_
  rintro e w15 ⟨gY2, rfl, b15, oY2⟩
  have e15 := e14.trans b15
  have z15 := b15.size
  replace oX0 := own_keep oX0 b15
  replace oX1 := own_keep oX1 b15
  replace oX2 := own_keep oX2 b15
  replace oX3 := own_keep oX3 b15
  clear b15 e14
  have at_oY2 := At.of_own oY2
  go_wp2_with fail
  refine (laws_eqIntS _ _ _ _ _ _ _ _ (Rd.of_own oX2) (Rd.of_own oY2)).mono ?_
  rintro e w16 ⟨rfl, b16⟩
  have e16 := e15.trans b16
  have z16 := b16.size
  replace oX0 := own_keep oX0 b16
  replace oX1 := own_keep oX1 b16
  replace oX2 := own_keep oX2 b16
  replace oX3 := own_keep oX3 b16
  replace oY2 := own_keep oY2 b16
  clear b16 e15
  clear oY2
  go_wp2_with fail
  refine (laws_toIntS _ _ _ a3 _ (hx3.keep e16) hn3).mono ?_
  rintro e w17 ⟨gY3, rfl, b17, oY3⟩
  have e17 := e16.trans b17
  have z17 := b17.size
  replace oX0 := own_keep oX0 b17
  replace oX1 := own_keep oX1 b17
  replace oX2 := own_keep oX2 b17
  replace oX3 := own_keep oX3 b17
  clear b17 e16
  have at_oY3 := At.of_own oY3
  go_wp2_with fail
  refine (laws_eqIntS _ _ _ _ _ _ _ _ (Rd.of_own oX3) (Rd.of_own oY3)).mono ?_
  rintro e w18 ⟨rfl, b18⟩
  have e18 := e17.trans b18
  have z18 := b18.size
  replace oX0 := own_keep oX0 b18
  replace oX1 := own_keep oX1 b18
  replace oX2 := own_keep oX2 b18
  replace oX3 := own_keep oX3 b18
  replace oY3 := own_keep oY3 b18
  clear b18 e17
  clear oY3
  go_wp2_with fail
  go_ret
  exact ⟨rfl, e18⟩
end Go.Proofs.Ytlgmiifpdjalpaa
