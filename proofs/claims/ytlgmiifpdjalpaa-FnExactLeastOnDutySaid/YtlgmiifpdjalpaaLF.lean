/- The walk of the law on LeastOnDuty; no condition. -/
import Derived.Test.YtlgmiifpdjalpaaS6
import Derived.Test.YtlgmiifpdjalpaaH2
namespace Go.Proofs.Ytlgmiifpdjalpaa
open Go.RowKit
set_option maxRecDepth 100000 in
set_option maxHeartbeats 4000000 in
theorem law_LeastOnDuty (A0 : Option Addr) (n0 c0 : Nat) (a0 : List GShift) (a1 : Int) (a2 : Int) (w : World) (hx0 : Rd w 3 A0 n0 (a0.flatMap GShift.enc)) :
    Calls Try.prog 4 #[.slice A0 n0 c0, .int .i64 a1, .int .i64 a2] w fun e w' => e = .returned (.bool true) ∧ Ext w w' := by
  have hnn0 := hx0.2.1
  by_cases hq0 : n0 ≤ 1048576
  case neg =>
    go_enter Try.func4, Try.ntmps4
    go_wp2_with fail
    refine (laws_szShiftS _ _ _ _ _ (by omega) (by omega) hnn0).mono ?_
    rintro e _ ⟨he, rfl⟩
    rw [if_pos (by omega)] at he
    subst he
    go_wp2_with fail
    go_ret
    refine ⟨rfl, ?_⟩
    (repeat (first | exact Ext.refl _ | assumption | refine Ext.alloc ?_ _ | refine Ext.drew ?_ | refine Ext.drewN ?_ _ | refine Ext.setCell ?_ (by first | (simp; done) | (simp; omega)) _ | refine Ext.trans ?_ (by assumption)))
  have hn0 : n0 ≤ 1048576 := by omega
  go_enter Try.func4, Try.ntmps4
  go_wp2_with fail
  refine (laws_szShiftS _ _ _ _ _ (by omega) (by omega) hnn0).mono ?_
  rintro e _ ⟨he, rfl⟩
  rw [if_neg (by omega)] at he
  subst he
  go_wp2_with fail
  have e0 := Ext.refl w
  go_wp2_with fail
  refine (laws_toShiftS _ _ _ a0 _ (hx0.keep e0) hn0).mono ?_
  rintro e w1 ⟨gW_0, rfl, b1, oW_0⟩
  have e1 := e0.trans b1
  have z1 := b1.size
  clear b1 e0
  have at_oW_0 := At.of_own oW_0
  go_wp2_with fail
  refine (spec_LeastOnDuty _ _ _ a0 a1 a2 _ (Rd.of_own oW_0)).mono ?_
  rintro e w2 ⟨rfl, b2⟩
  have e2 := e1.trans b2
  have z2 := b2.size
  replace oW_0 := own_keep oW_0 b2
  clear b2 e1
  clear oW_0
  go_wp2_with fail
  refine (laws_toShiftS _ _ _ a0 _ (hx0.keep e2) hn0).mono ?_
  rintro e w3 ⟨gX0, rfl, b3, oX0⟩
  have e3 := e2.trans b3
  have z3 := b3.size
  clear b3 e2
  have at_oX0 := At.of_own oX0
  go_wp2_with fail
  refine (impl_LeastOnDuty_s _ _ _ a0 a1 a2 _ (Rd.of_own oX0)).mono ?_
  rintro e w4 ⟨rfl, b4⟩
  have e4 := e3.trans b4
  have z4 := b4.size
  replace oX0 := own_keep oX0 b4
  clear b4 e3
  go_wp2_with fail
  refine (laws_toShiftS _ _ _ a0 _ (hx0.keep e4) hn0).mono ?_
  rintro e w5 ⟨gY0, rfl, b5, oY0⟩
  have e5 := e4.trans b5
  have z5 := b5.size
  replace oX0 := own_keep oX0 b5
  clear b5 e4
  have at_oY0 := At.of_own oY0
  go_wp2_with fail
  refine (laws_eqShiftS _ _ _ _ _ _ _ _ (Rd.of_own oX0) (Rd.of_own oY0)).mono ?_
  rintro e w6 ⟨rfl, b6⟩
  have e6 := e5.trans b6
  have z6 := b6.size
  replace oX0 := own_keep oX0 b6
  replace oY0 := own_keep oY0 b6
  clear b6 e5
  clear oY0
  go_wp2_with fail
  go_ret
  exact ⟨rfl, e6⟩
end Go.Proofs.Ytlgmiifpdjalpaa
