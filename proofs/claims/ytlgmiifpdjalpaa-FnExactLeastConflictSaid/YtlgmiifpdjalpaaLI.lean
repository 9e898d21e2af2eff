/- The walk of the law on LeastConflict; no condition. -/
import Derived.Test.YtlgmiifpdjalpaaS16
import Derived.Test.YtlgmiifpdjalpaaH2
namespace Go.Proofs.Ytlgmiifpdjalpaa
set_option linter.unusedSimpArgs false
set_option linter.unusedVariables false
open Go.RowKit
theorem allL_len {n : Nat} (h : n ≤ 6) : ∀ a ∈ allL n, a.length ≤ 6 := by
  have h7 : n = 0 ∨ n = 1 ∨ n = 2 ∨ n = 3 ∨ n = 4 ∨ n = 5 ∨ n = 6 := by omega
  rcases h7 with rfl | rfl | rfl | rfl | rfl | rfl | rfl <;> decide +kernel
theorem leastC_len (loans : List GLoan) (halls : List GClimate) (room : List Int) : (leastC loans halls room).length ≤ 6 := by
  unfold leastC
  split
  · rename_i h
    obtain ⟨h1, -⟩ := sizesOkB_spec h
    cases hf : (allL loans.length).find? (confl loans halls room) with
    | none => simp
    | some a => exact allL_len h1 a (List.mem_of_find?_eq_some hf)
  · simp
set_option maxRecDepth 100000 in
set_option maxHeartbeats 4000000 in
theorem law_LeastConflict (A0 : Option Addr) (n0 c0 : Nat) (a0 : List GLoan) (A1 : Option Addr) (n1 c1 : Nat) (a1 : List GClimate) (A2 : Option Addr) (n2 c2 : Nat) (a2 : List Int) (w : World) (hx0 : Rd w 4 A0 n0 (a0.flatMap GLoan.enc)) (hx1 : Rd w 3 A1 n1 (a1.flatMap GClimate.enc)) (hx2 : Rd w 1 A2 n2 (a2.flatMap ienc)) :
    Calls Try.prog 11 #[.slice A0 n0 c0, .slice A1 n1 c1, .slice A2 n2 c2] w fun e w' => e = .returned (.bool true) ∧ Ext w w' := by
  have hnn0 := hx0.2.1
  have hnn1 := hx1.2.1
  have hnn2 := hx2.2.1
  by_cases hq0 : n2 ≤ 1048576
  case neg =>
    go_enter Try.func11, Try.ntmps11
    go_wp2_with fail
    go_ret
    refine ⟨rfl, ?_⟩
    (repeat (first | exact Ext.refl _ | assumption | refine Ext.alloc ?_ _ | refine Ext.drew ?_ | refine Ext.drewN ?_ _ | refine Ext.setCell ?_ (by first | (simp; done) | (simp; omega)) _ | refine Ext.trans ?_ (by assumption)))
  by_cases hq1 : n0 ≤ 1048576
  case neg =>
    go_enter Try.func11, Try.ntmps11
    go_wp2_with fail
    refine (laws_szLoanS _ _ _ _ _ (by omega) (by omega) hnn0).mono ?_
    rintro e _ ⟨he, rfl⟩
    rw [if_pos (by omega)] at he
    subst he
    go_wp2_with fail
    go_ret
    refine ⟨rfl, ?_⟩
    (repeat (first | exact Ext.refl _ | assumption | refine Ext.alloc ?_ _ | refine Ext.drew ?_ | refine Ext.drewN ?_ _ | refine Ext.setCell ?_ (by first | (simp; done) | (simp; omega)) _ | refine Ext.trans ?_ (by assumption)))
  by_cases hq2 : n0 + n1 ≤ 1048576
  case neg =>
    go_enter Try.func11, Try.ntmps11
    go_wp2_with fail
    refine (laws_szLoanS _ _ _ _ _ (by omega) (by omega) hnn0).mono ?_
    rintro e _ ⟨he, rfl⟩
    rw [if_neg (by omega)] at he
    subst he
    go_wp2_with fail
    refine (laws_szClimateS _ _ _ _ _ (by omega) (by omega) hnn1).mono ?_
    rintro e _ ⟨he, rfl⟩
    rw [if_pos (by omega)] at he
    subst he
    go_wp2_with fail
    go_ret
    refine ⟨rfl, ?_⟩
    (repeat (first | exact Ext.refl _ | assumption | refine Ext.alloc ?_ _ | refine Ext.drew ?_ | refine Ext.drewN ?_ _ | refine Ext.setCell ?_ (by first | (simp; done) | (simp; omega)) _ | refine Ext.trans ?_ (by assumption)))
  have hn0 : n0 ≤ 1048576 := by omega
  have hn1 : n1 ≤ 1048576 := by omega
  have hn2 : n2 ≤ 1048576 := by omega
  go_enter Try.func11, Try.ntmps11
  go_wp2_with fail
  refine (laws_szLoanS _ _ _ _ _ (by omega) (by omega) hnn0).mono ?_
  rintro e _ ⟨he, rfl⟩
  rw [if_neg (by omega)] at he
  subst he
  go_wp2_with fail
  refine (laws_szClimateS _ _ _ _ _ (by omega) (by omega) hnn1).mono ?_
  rintro e _ ⟨he, rfl⟩
  rw [if_neg (by omega)] at he
  subst he
  go_wp2_with fail
  have e0 := Ext.refl w
  go_wp2_with fail
  refine (laws_toLoanS _ _ _ a0 _ (hx0.keep e0) hn0).mono ?_
  rintro e w1 ⟨gW_0, rfl, b1, oW_0⟩
  have e1 := e0.trans b1
  have z1 := b1.size
  clear b1 e0
  have at_oW_0 := At.of_own oW_0
  go_wp2_with fail
  refine (laws_toClimateS _ _ _ a1 _ (hx1.keep e1) hn1).mono ?_
  rintro e w2 ⟨gW_1, rfl, b2, oW_1⟩
  have e2 := e1.trans b2
  have z2 := b2.size
  replace oW_0 := own_keep oW_0 b2
  clear b2 e1
  have at_oW_1 := At.of_own oW_1
  go_wp2_with fail
  refine (laws_toIntS _ _ _ a2 _ (hx2.keep e2) hn2).mono ?_
  rintro e w3 ⟨gW_2, rfl, b3, oW_2⟩
  have e3 := e2.trans b3
  have z3 := b3.size
  replace oW_0 := own_keep oW_0 b3
  replace oW_1 := own_keep oW_1 b3
  clear b3 e2
  have at_oW_2 := At.of_own oW_2
  go_wp2_with fail
  refine (spec_LeastConflict _ _ _ a0 _ _ _ a1 _ _ _ a2 _ (Rd.of_own oW_0) (Rd.of_own oW_1) (Rd.of_own oW_2) (Lib.hid (own_nilcap oW_2))).mono ?_
  rintro e w4 ⟨vW, rfl, b4, orW⟩
  have e4 := e3.trans b4
  have z4 := b4.size
  replace oW_0 := own_keep oW_0 b4
  replace oW_1 := own_keep oW_1 b4
  replace oW_2 := own_keep oW_2 b4
  clear b4 e3
  clear oW_0
  clear oW_1
  clear oW_2
  obtain ⟨AW, cW, rfl, _⟩ := own_form orW
  have at_orW := At.of_own orW
  go_wp2_with fail
  refine (laws_toLoanS _ _ _ a0 _ (hx0.keep e4) hn0).mono ?_
  rintro e w5 ⟨gX0, rfl, b5, oX0⟩
  have e5 := e4.trans b5
  have z5 := b5.size
  replace orW := own_keep orW b5
  clear b5 e4
  have at_oX0 := At.of_own oX0
  go_wp2_with fail
  refine (laws_toClimateS _ _ _ a1 _ (hx1.keep e5) hn1).mono ?_
  rintro e w6 ⟨gX1, rfl, b6, oX1⟩
  have e6 := e5.trans b6
  have z6 := b6.size
  replace orW := own_keep orW b6
  replace oX0 := own_keep oX0 b6
  clear b6 e5
  have at_oX1 := At.of_own oX1
  go_wp2_with fail
  refine (laws_toIntS _ _ _ a2 _ (hx2.keep e6) hn2).mono ?_
  rintro e w7 ⟨gX2, rfl, b7, oX2⟩
  have e7 := e6.trans b7
  have z7 := b7.size
  replace orW := own_keep orW b7
  replace oX0 := own_keep oX0 b7
  replace oX1 := own_keep oX1 b7
  clear b7 e6
  have at_oX2 := At.of_own oX2
  go_wp2_with fail
  refine (impl_LeastConflict _ _ _ a0 _ _ _ a1 _ _ _ a2 _ (Rd.of_own oX0) (Rd.of_own oX1) (Rd.of_own oX2) (Lib.hid (own_nilcap oX2))).mono ?_
  rintro e w8 ⟨vG, rfl, b8, orG⟩
  have e8 := e7.trans b8
  have z8 := b8.size
  replace orW := own_keep orW b8
  replace oX0 := own_keep oX0 b8
  replace oX1 := own_keep oX1 b8
  replace oX2 := own_keep oX2 b8
  clear b8 e7
  obtain ⟨AG, cG, rfl, _⟩ := own_form orG
  have at_orG := At.of_own orG
  go_wp2_with fail
  refine (laws_eqIntS _ _ _ _ _ _ _ _ (Rd.of_own orG) (Rd.of_own orW)).mono ?_
  rintro e w9 ⟨rfl, b9⟩
  have e9 := e8.trans b9
  have z9 := b9.size
  replace orW := own_keep orW b9
  replace oX0 := own_keep oX0 b9
  replace oX1 := own_keep oX1 b9
  replace oX2 := own_keep oX2 b9
  replace orG := own_keep orG b9
  clear b9 e8
  go_wp2_with fail
  refine (laws_toLoanS _ _ _ a0 _ (hx0.keep e9) hn0).mono ?_
  rintro e w10 ⟨gY0, rfl, b10, oY0⟩
  have e10 := e9.trans b10
  have z10 := b10.size
  replace orW := own_keep orW b10
  replace oX0 := own_keep oX0 b10
  replace oX1 := own_keep oX1 b10
  replace oX2 := own_keep oX2 b10
  replace orG := own_keep orG b10
  clear b10 e9
  have at_oY0 := At.of_own oY0
  go_wp2_with fail
  refine (laws_eqLoanS _ _ _ _ _ _ _ _ (Rd.of_own oX0) (Rd.of_own oY0)).mono ?_
  rintro e w11 ⟨rfl, b11⟩
  have e11 := e10.trans b11
  have z11 := b11.size
  replace orW := own_keep orW b11
  replace oX0 := own_keep oX0 b11
  replace oX1 := own_keep oX1 b11
  replace oX2 := own_keep oX2 b11
  replace orG := own_keep orG b11
  replace oY0 := own_keep oY0 b11
  clear b11 e10
  clear oY0
  go_wp2_with fail
  refine (laws_toClimateS _ _ _ a1 _ (hx1.keep e11) hn1).mono ?_
  rintro e w12 ⟨gY1, rfl, b12, oY1⟩
  have e12 := e11.trans b12
  have z12 := b12.size
  replace orW := own_keep orW b12
  replace oX0 := own_keep oX0 b12
  replace oX1 := own_keep oX1 b12
  replace oX2 := own_keep oX2 b12
  replace orG := own_keep orG b12
  clear b12 e11
  have at_oY1 := At.of_own oY1
  go_wp2_with fail
  refine (laws_eqClimateS _ _ _ _ _ _ _ _ (Rd.of_own oX1) (Rd.of_own oY1)).mono ?_
  rintro e w13 ⟨rfl, b13⟩
  have e13 := e12.trans b13
  have z13 := b13.size
  replace orW := own_keep orW b13
  replace oX0 := own_keep oX0 b13
  replace oX1 := own_keep oX1 b13
  replace oX2 := own_keep oX2 b13
  replace orG := own_keep orG b13
  replace oY1 := own_keep oY1 b13
  clear b13 e12
  clear oY1
  go_wp2_with fail
  refine (laws_toIntS _ _ _ a2 _ (hx2.keep e13) hn2).mono ?_
  rintro e w14 ⟨gY2, rfl, b14, oY2⟩
  have e14 := e13.trans b14
  have z14 := b14.size
  replace orW := own_keep orW b14
  replace oX0 := own_keep oX0 b14
  replace oX1 := own_keep oX1 b14
  replace oX2 := own_keep oX2 b14
  replace orG := own_keep orG b14
  clear b14 e13
  have at_oY2 := At.of_own oY2
  go_wp2_with fail
  refine (laws_eqIntS _ _ _ _ _ _ _ _ (Rd.of_own oX2) (Rd.of_own oY2)).mono ?_
  rintro e w15 ⟨rfl, b15⟩
  have e15 := e14.trans b15
  have z15 := b15.size
  replace orW := own_keep orW b15
  replace oX0 := own_keep oX0 b15
  replace oX1 := own_keep oX1 b15
  replace oX2 := own_keep oX2 b15
  replace orG := own_keep orG b15
  replace oY2 := own_keep oY2 b15
  clear b15 e14
  clear oY2
  have hLn : (leastC a0 a1 a2).length ≤ 1048576 := Nat.le_trans (leastC_len a0 a1 a2) (by omega)
  go_wp2_with fail
  refine (laws_markLoanS _ _ _ _ _ _ _ oX0 hn0 (by omega) (by omega)).mono ?_
  rintro e w16 ⟨rfl, om16, hg16⟩
  have e16 := ext_kept e15 at_oX0 (by omega) hg16
  have z16 := hg16.size
  replace orW := own_kept orW at_orW at_oX0 (by omega) hg16
  replace orG := own_kept orG at_orG at_oX0 (by omega) hg16
  replace oX1 := own_kept oX1 at_oX1 at_oX0 (by omega) hg16
  replace oX2 := own_kept oX2 at_oX2 at_oX0 (by omega) hg16
  clear oX0 hg16 e15
  clear om16
  go_wp2_with fail
  refine (laws_markClimateS _ _ _ _ _ _ _ oX1 hn1 (by omega) (by omega)).mono ?_
  rintro e w17 ⟨rfl, om17, hg17⟩
  have e17 := ext_kept e16 at_oX1 (by omega) hg17
  have z17 := hg17.size
  replace orW := own_kept orW at_orW at_oX1 (by omega) hg17
  replace orG := own_kept orG at_orG at_oX1 (by omega) hg17
  replace oX2 := own_kept oX2 at_oX2 at_oX1 (by omega) hg17
  clear oX1 hg17 e16
  clear om17
  go_wp2_with fail
  refine (laws_markIntS _ _ _ _ _ _ _ oX2 hn2 (by omega) (by omega)).mono ?_
  rintro e w18 ⟨rfl, om18, hg18⟩
  have e18 := ext_kept e17 at_oX2 (by omega) hg18
  have z18 := hg18.size
  replace orW := own_kept orW at_orW at_oX2 (by omega) hg18
  replace orG := own_kept orG at_orG at_oX2 (by omega) hg18
  clear oX2 hg18 e17
  clear om18
  go_wp2_with fail
  refine (laws_eqIntS _ _ _ _ _ _ _ _ (Rd.of_own orG) (Rd.of_own orW)).mono ?_
  rintro e w19 ⟨rfl, b19⟩
  have e19 := e18.trans b19
  have z19 := b19.size
  replace orW := own_keep orW b19
  replace orG := own_keep orG b19
  clear b19 e18
  go_wp2_with fail
  refine (laws_markIntS _ _ _ _ _ _ _ orG hLn (by omega) (by omega)).mono ?_
  rintro e w20 ⟨rfl, om20, hg20⟩
  have e20 := ext_kept e19 at_orG (by omega) hg20
  have z20 := hg20.size
  replace orW := own_kept orW at_orW at_orG (by omega) hg20
  clear orG hg20 e19
  have orM := om20
  clear om20
  go_wp2_with fail
  refine (laws_heldIntS _ _ _ _ _ (Rd.of_own orM) hLn (by omega) (by omega)).mono ?_
  rintro e w21 ⟨rfl, b21⟩
  have e21 := e20.trans b21
  have z21 := b21.size
  replace orW := own_keep orW b21
  replace orM := own_keep orM b21
  clear b21 e20
  go_wp2_with fail
  refine (laws_toLoanS _ _ _ a0 _ (hx0.keep e21) hn0).mono ?_
  rintro e w22 ⟨gH_0, rfl, b22, oH_0⟩
  have e22 := e21.trans b22
  have z22 := b22.size
  replace orW := own_keep orW b22
  replace orM := own_keep orM b22
  clear b22 e21
  have at_oH_0 := At.of_own oH_0
  go_wp2_with fail
  refine (laws_toClimateS _ _ _ a1 _ (hx1.keep e22) hn1).mono ?_
  rintro e w23 ⟨gH_1, rfl, b23, oH_1⟩
  have e23 := e22.trans b23
  have z23 := b23.size
  replace orW := own_keep orW b23
  replace orM := own_keep orM b23
  replace oH_0 := own_keep oH_0 b23
  clear b23 e22
  have at_oH_1 := At.of_own oH_1
  go_wp2_with fail
  refine (laws_toIntS _ _ _ a2 _ (hx2.keep e23) hn2).mono ?_
  rintro e w24 ⟨gH_2, rfl, b24, oH_2⟩
  have e24 := e23.trans b24
  have z24 := b24.size
  replace orW := own_keep orW b24
  replace orM := own_keep orM b24
  replace oH_0 := own_keep oH_0 b24
  replace oH_1 := own_keep oH_1 b24
  clear b24 e23
  have at_oH_2 := At.of_own oH_2
  go_wp2_with fail
  refine (impl_LeastConflict _ _ _ a0 _ _ _ a1 _ _ _ a2 _ (Rd.of_own oH_0) (Rd.of_own oH_1) (Rd.of_own oH_2) (Lib.hid (own_nilcap oH_2))).mono ?_
  rintro e w25 ⟨vH, rfl, b25, orH⟩
  have e25 := e24.trans b25
  have z25 := b25.size
  replace orW := own_keep orW b25
  replace orM := own_keep orM b25
  replace oH_0 := own_keep oH_0 b25
  replace oH_1 := own_keep oH_1 b25
  replace oH_2 := own_keep oH_2 b25
  clear b25 e24
  clear oH_0
  clear oH_1
  clear oH_2
  obtain ⟨AH, cH, rfl, _⟩ := own_form orH
  have at_orH := At.of_own orH
  go_wp2_with fail
  refine (laws_eqIntS _ _ _ _ _ _ _ _ (Rd.of_own orH) (Rd.of_own orW)).mono ?_
  rintro e w26 ⟨rfl, b26⟩
  have e26 := e25.trans b26
  have z26 := b26.size
  replace orW := own_keep orW b26
  replace orM := own_keep orM b26
  replace orH := own_keep orH b26
  clear b26 e25
  go_wp2_with fail
  refine (laws_heldIntS _ _ _ _ _ (Rd.of_own orM) hLn (by omega) (by omega)).mono ?_
  rintro e w27 ⟨rfl, b27⟩
  have e27 := e26.trans b27
  have z27 := b27.size
  replace orW := own_keep orW b27
  replace orM := own_keep orM b27
  replace orH := own_keep orH b27
  clear b27 e26
  go_wp2_with fail
  go_ret
  exact ⟨rfl, e27⟩
end Go.Proofs.Ytlgmiifpdjalpaa
