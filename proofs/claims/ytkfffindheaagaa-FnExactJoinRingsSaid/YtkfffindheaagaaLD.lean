/- The walks of the laws ShiftsOk and JoinRings; no condition. -/
import Derived.Test.YtkfffindheaagaaS4
import Derived.Test.YtkfffindheaagaaH1
namespace Go.Proofs.Ytkfffindheaagaa
open Go.RowKit
set_option maxRecDepth 100000 in
set_option maxHeartbeats 1000000 in
theorem law_ShiftsOk (A : Option Addr) (n c : Nat) (xs : List GShift) (rest : Int) (w : World) (hx : Rd w 3 A n (xs.flatMap GShift.enc)) :
    Calls Try.prog 14 #[.slice A n c, .int .i64 rest] w fun e w' => e = .returned (.bool true) ∧ Ext w w' := by
  have hnn := hx.2.1
  by_cases hn : n ≤ 1048576
  · go_enter Try.func14, Try.ntmps14
    go_wp2_with (first
      | (go_at_call 41; refine (laws_szShiftS _ _ _ _ _ (by omega) (by omega) hnn).mono ?_; rintro e w1 ⟨he, rfl⟩; rw [if_neg (by omega)] at he; subst he)
      | (go_at_call 43; refine (laws_toShiftS _ _ _ xs _ ?_ hn).mono ?_; (focus (first | assumption | (refine Rd.keep (by assumption) ?_; (repeat (first | exact Ext.refl _ | assumption | refine Ext.alloc ?_ _ | refine Ext.drew ?_ | refine Ext.drewN ?_ _ | refine Ext.setCell ?_ (by first | (simp; done) | (simp; omega)) _ | refine Ext.trans ?_ (by assumption))); done) | (refine Rd.keep (Rd.of_own (by assumption)) ?_; (repeat (first | exact Ext.refl _ | assumption | refine Ext.alloc ?_ _ | refine Ext.drew ?_ | refine Ext.drewN ?_ _ | refine Ext.setCell ?_ (by first | (simp; done) | (simp; omega)) _ | refine Ext.trans ?_ (by assumption))); done))); rintro e w1 ⟨g, rfl, hb, ho⟩)
      | (go_at_call 50; refine (spec_ShiftsOk _ _ _ xs rest _ ?_).mono ?_; (focus (first | assumption | (refine Rd.keep (by assumption) ?_; (repeat (first | exact Ext.refl _ | assumption | refine Ext.alloc ?_ _ | refine Ext.drew ?_ | refine Ext.drewN ?_ _ | refine Ext.setCell ?_ (by first | (simp; done) | (simp; omega)) _ | refine Ext.trans ?_ (by assumption))); done) | (refine Rd.keep (Rd.of_own (by assumption)) ?_; (repeat (first | exact Ext.refl _ | assumption | refine Ext.alloc ?_ _ | refine Ext.drew ?_ | refine Ext.drewN ?_ _ | refine Ext.setCell ?_ (by first | (simp; done) | (simp; omega)) _ | refine Ext.trans ?_ (by assumption))); done))); rintro e w1 ⟨rfl, hb⟩)
      | (go_at_call 51; refine (impl_ShiftsOk _ _ _ xs rest _ ?_ (Nat.le_refl _)).mono ?_; (focus (first | assumption | (refine Rd.keep (by assumption) ?_; (repeat (first | exact Ext.refl _ | assumption | refine Ext.alloc ?_ _ | refine Ext.drew ?_ | refine Ext.drewN ?_ _ | refine Ext.setCell ?_ (by first | (simp; done) | (simp; omega)) _ | refine Ext.trans ?_ (by assumption))); done) | (refine Rd.keep (Rd.of_own (by assumption)) ?_; (repeat (first | exact Ext.refl _ | assumption | refine Ext.alloc ?_ _ | refine Ext.drew ?_ | refine Ext.drewN ?_ _ | refine Ext.setCell ?_ (by first | (simp; done) | (simp; omega)) _ | refine Ext.trans ?_ (by assumption))); done))); rintro e w1 ⟨rfl, hb⟩)
      | (go_at_call 45; refine (laws_eqShiftS _ _ _ _ _ _ xs _ ?_ ?_).mono ?_; (focus (first | assumption | (refine Rd.keep (by assumption) ?_; (repeat (first | exact Ext.refl _ | assumption | refine Ext.alloc ?_ _ | refine Ext.drew ?_ | refine Ext.drewN ?_ _ | refine Ext.setCell ?_ (by first | (simp; done) | (simp; omega)) _ | refine Ext.trans ?_ (by assumption))); done) | (refine Rd.keep (Rd.of_own (by assumption)) ?_; (repeat (first | exact Ext.refl _ | assumption | refine Ext.alloc ?_ _ | refine Ext.drew ?_ | refine Ext.drewN ?_ _ | refine Ext.setCell ?_ (by first | (simp; done) | (simp; omega)) _ | refine Ext.trans ?_ (by assumption))); done))); (focus (first | assumption | (refine Rd.keep (by assumption) ?_; (repeat (first | exact Ext.refl _ | assumption | refine Ext.alloc ?_ _ | refine Ext.drew ?_ | refine Ext.drewN ?_ _ | refine Ext.setCell ?_ (by first | (simp; done) | (simp; omega)) _ | refine Ext.trans ?_ (by assumption))); done) | (refine Rd.keep (Rd.of_own (by assumption)) ?_; (repeat (first | exact Ext.refl _ | assumption | refine Ext.alloc ?_ _ | refine Ext.drew ?_ | refine Ext.drewN ?_ _ | refine Ext.setCell ?_ (by first | (simp; done) | (simp; omega)) _ | refine Ext.trans ?_ (by assumption))); done))); rintro e w1 ⟨rfl, hb⟩))
    all_goals go_ret
    all_goals refine ⟨rfl, ?_⟩
    all_goals (repeat (first | exact Ext.refl _ | assumption | refine Ext.alloc ?_ _ | refine Ext.drew ?_ | refine Ext.drewN ?_ _ | refine Ext.setCell ?_ (by first | (simp; done) | (simp; omega)) _ | refine Ext.trans ?_ (by assumption)))
  · go_enter Try.func14, Try.ntmps14
    go_wp2_with (first
      | (go_at_call 41; refine (laws_szShiftS _ _ _ _ _ (by omega) (by omega) hnn).mono ?_; rintro e w1 ⟨he, rfl⟩; rw [if_pos (by omega)] at he; subst he)
      | fail)
    all_goals go_ret
    all_goals refine ⟨rfl, ?_⟩
    all_goals (repeat (first | exact Ext.refl _ | assumption | refine Ext.alloc ?_ _ | refine Ext.drew ?_ | refine Ext.drewN ?_ _ | refine Ext.setCell ?_ (by first | (simp; done) | (simp; omega)) _ | refine Ext.trans ?_ (by assumption)))
set_option maxRecDepth 100000 in
set_option maxHeartbeats 1000000 in
theorem law_JoinRings (A : Option Addr) (n c : Nat) (xs : List Int) (w : World) (hx : Rd w 1 A n (xs.flatMap ienc)) :
    Calls Try.prog 6 #[.slice A n c] w fun e w' => e = .returned (.bool true) ∧ Ext w w' := by
  have hnn := hx.2.1
  by_cases hn : n ≤ 1048576
  · go_enter Try.func6, Try.ntmps6
    go_wp2_with (first
      | (go_at_call 24; refine (laws_toIntS _ _ _ xs _ ?_ hn).mono ?_; (focus (first | assumption | (refine Rd.keep (by assumption) ?_; (repeat (first | exact Ext.refl _ | assumption | refine Ext.alloc ?_ _ | refine Ext.drew ?_ | refine Ext.drewN ?_ _ | refine Ext.setCell ?_ (by first | (simp; done) | (simp; omega)) _ | refine Ext.trans ?_ (by assumption))); done) | (refine Rd.keep (Rd.of_own (by assumption)) ?_; (repeat (first | exact Ext.refl _ | assumption | refine Ext.alloc ?_ _ | refine Ext.drew ?_ | refine Ext.drewN ?_ _ | refine Ext.setCell ?_ (by first | (simp; done) | (simp; omega)) _ | refine Ext.trans ?_ (by assumption))); done))); rintro e w1 ⟨g, rfl, hb, ho⟩)
      | (go_at_call 23; refine (spec_JoinRings _ _ _ xs _ ?_).mono ?_; (focus (first | assumption | (refine Rd.keep (by assumption) ?_; (repeat (first | exact Ext.refl _ | assumption | refine Ext.alloc ?_ _ | refine Ext.drew ?_ | refine Ext.drewN ?_ _ | refine Ext.setCell ?_ (by first | (simp; done) | (simp; omega)) _ | refine Ext.trans ?_ (by assumption))); done) | (refine Rd.keep (Rd.of_own (by assumption)) ?_; (repeat (first | exact Ext.refl _ | assumption | refine Ext.alloc ?_ _ | refine Ext.drew ?_ | refine Ext.drewN ?_ _ | refine Ext.setCell ?_ (by first | (simp; done) | (simp; omega)) _ | refine Ext.trans ?_ (by assumption))); done))); rintro e w1 ⟨rfl, hb⟩)
      | (go_at_call 25; refine (impl_JoinRings _ _ _ xs _ ?_).mono ?_; (focus (first | assumption | (refine Rd.keep (by assumption) ?_; (repeat (first | exact Ext.refl _ | assumption | refine Ext.alloc ?_ _ | refine Ext.drew ?_ | refine Ext.drewN ?_ _ | refine Ext.setCell ?_ (by first | (simp; done) | (simp; omega)) _ | refine Ext.trans ?_ (by assumption))); done) | (refine Rd.keep (Rd.of_own (by assumption)) ?_; (repeat (first | exact Ext.refl _ | assumption | refine Ext.alloc ?_ _ | refine Ext.drew ?_ | refine Ext.drewN ?_ _ | refine Ext.setCell ?_ (by first | (simp; done) | (simp; omega)) _ | refine Ext.trans ?_ (by assumption))); done))); rintro e w1 ⟨rfl, hb⟩)
      | (go_at_call 26; refine (laws_eqIntS _ _ _ _ _ _ xs _ ?_ ?_).mono ?_; (focus (first | assumption | (refine Rd.keep (by assumption) ?_; (repeat (first | exact Ext.refl _ | assumption | refine Ext.alloc ?_ _ | refine Ext.drew ?_ | refine Ext.drewN ?_ _ | refine Ext.setCell ?_ (by first | (simp; done) | (simp; omega)) _ | refine Ext.trans ?_ (by assumption))); done) | (refine Rd.keep (Rd.of_own (by assumption)) ?_; (repeat (first | exact Ext.refl _ | assumption | refine Ext.alloc ?_ _ | refine Ext.drew ?_ | refine Ext.drewN ?_ _ | refine Ext.setCell ?_ (by first | (simp; done) | (simp; omega)) _ | refine Ext.trans ?_ (by assumption))); done))); (focus (first | assumption | (refine Rd.keep (by assumption) ?_; (repeat (first | exact Ext.refl _ | assumption | refine Ext.alloc ?_ _ | refine Ext.drew ?_ | refine Ext.drewN ?_ _ | refine Ext.setCell ?_ (by first | (simp; done) | (simp; omega)) _ | refine Ext.trans ?_ (by assumption))); done) | (refine Rd.keep (Rd.of_own (by assumption)) ?_; (repeat (first | exact Ext.refl _ | assumption | refine Ext.alloc ?_ _ | refine Ext.drew ?_ | refine Ext.drewN ?_ _ | refine Ext.setCell ?_ (by first | (simp; done) | (simp; omega)) _ | refine Ext.trans ?_ (by assumption))); done))); rintro e w1 ⟨rfl, hb⟩))
    all_goals go_ret
    all_goals refine ⟨rfl, ?_⟩
    all_goals (repeat (first | exact Ext.refl _ | assumption | refine Ext.alloc ?_ _ | refine Ext.drew ?_ | refine Ext.drewN ?_ _ | refine Ext.setCell ?_ (by first | (simp; done) | (simp; omega)) _ | refine Ext.trans ?_ (by assumption)))
  · go_enter Try.func6, Try.ntmps6
    go_wp2_with fail
    all_goals go_ret
    all_goals refine ⟨rfl, ?_⟩
    all_goals (repeat (first | exact Ext.refl _ | assumption | refine Ext.alloc ?_ _ | refine Ext.drew ?_ | refine Ext.drewN ?_ _ | refine Ext.setCell ?_ (by first | (simp; done) | (simp; omega)) _ | refine Ext.trans ?_ (by assumption)))
end Go.Proofs.Ytkfffindheaagaa
