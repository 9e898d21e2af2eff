/- The walk of the law on ScriptText; no condition but the table's. -/
import Derived.Test.YtcmbjkidgemdaaaDoorST6
import Derived.Test.YtcmbjkidgemdaaaDoorH1
namespace Go.Proofs.YtcmbjkidgemdaaaDoor
set_option linter.unusedSimpArgs false
set_option linter.unusedVariables false
open Go.RowKit
set_option maxRecDepth 100000 in
set_option maxHeartbeats 2000000 in
theorem law_ScriptText (A : Option Addr) (n c : Nat) (xs : List GAct) (w : World) (hx : Rd w 5 A n (xs.flatMap GAct.enc)) (htab : Hid (Lib.TabIs Tryd.prog w "internal/strconv.uint64pow10" .u64 Lib.pow10Tab)) :
    Calls Tryd.prog 5 #[.slice A n c] w fun e w' => e = .returned (.bool true) ∧ Ext w w' := by
  have hnn := hx.2.1
  by_cases hn : n ≤ 1048576
  · go_enter Tryd.func5, Tryd.ntmps5
    go_wp2_with fail
    refine (laws_szActS _ _ _ _ _ (by omega) (by omega) hnn).mono ?_
    rintro e w1 ⟨he, rfl⟩
    rw [if_neg (by omega)] at he
    subst he
    go_wp2_with fail
    refine (laws_toActS A n c xs _ hx hn).mono ?_
    rintro e w1 ⟨g1, rfl, hb1, ho1⟩
    go_wp2_with fail
    refine (spec_ScriptText _ n n xs w1 (Rd.of_own ho1) hn).mono ?_
    rintro e w2 ⟨rfl, hb2⟩
    have e2 := hb1.trans hb2
    go_wp2_with fail
    refine (laws_toActS A n c xs w2 (hx.keep e2) hn).mono ?_
    rintro e w3 ⟨g3, rfl, hb3, ho3⟩
    have e3 := e2.trans hb3
    go_wp2_with fail
    refine (impl_ScriptText _ n n xs w3 (Rd.of_own ho3) hn (Lib.hid (tab_ext htab.out e3))).mono ?_
    rintro e w4 ⟨rfl, hb4⟩
    have e4 := e3.trans hb4
    go_wp2_with fail
    refine (laws_toActS A n c xs w4 (hx.keep e4) hn).mono ?_
    rintro e w5 ⟨g5, rfl, hb5, ho5⟩
    have e5 := e4.trans hb5
    go_wp2_with fail
    refine (laws_eqActS _ _ _ _ _ _ xs w5 (Rd.of_own (own_keep ho3 (hb4.trans hb5))) (Rd.of_own ho5)).mono ?_
    rintro e w6 ⟨rfl, hb6⟩
    have e6 := Lib.hid (e5.trans hb6)
    clear hb1 hb2 hb3 hb4 hb5 hb6 e2 e3 e4 e5
    go_wp2_with fail
    all_goals go_ret
    all_goals exact ⟨rfl, e6.out⟩
  · go_enter Tryd.func5, Tryd.ntmps5
    go_wp2_with (first
      | (go_at_call 16; refine (laws_szActS _ _ _ _ _ (by omega) (by omega) hnn).mono ?_; rintro e w1 ⟨he, rfl⟩; rw [if_pos (by omega)] at he; subst he)
      | fail)
    all_goals go_ret
    all_goals refine ⟨rfl, ?_⟩
    all_goals (repeat (first | exact Ext.refl _ | assumption | refine Ext.alloc ?_ _ | refine Ext.drew ?_ | refine Ext.drewN ?_ _ | refine Ext.setCell ?_ (by first | (simp; done) | (simp; omega)) _ | refine Ext.trans ?_ (by assumption)))
end Go.Proofs.YtcmbjkidgemdaaaDoor
