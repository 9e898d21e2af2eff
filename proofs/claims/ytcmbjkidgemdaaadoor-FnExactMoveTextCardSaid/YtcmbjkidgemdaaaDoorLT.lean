/- The walk of the law on MoveText; no condition. -/
import Derived.Test.YtcmbjkidgemdaaaDoorST2
import Derived.Test.YtcmbjkidgemdaaaDoorH1
namespace Go.Proofs.YtcmbjkidgemdaaaDoor
set_option linter.unusedSimpArgs false
set_option linter.unusedVariables false
open Go.RowKit
set_option maxRecDepth 100000 in
set_option maxHeartbeats 1000000 in
theorem law_MoveText (s : GMove) (w : World) :
    Calls Tryd.prog 3 #[.agg #[.int .i64 s.o, .int .i64 s.t, .int .i64 s.f, .int .i64 s.s]] w fun e w' => e = .returned (.bool true) ∧ Ext w w' := by
  go_enter Tryd.func3, Tryd.ntmps3
  go_wp2_with (first | (go_at_call 11; refine (laws_toMove _ _).mono ?_; rintro e w1 ⟨rfl, hb⟩; obtain ⟨hc, hf, hz⟩ := hb.facts) | (go_at_call 10; refine (spec_MoveText _ _).mono ?_; rintro e w1 ⟨rfl, hb⟩; obtain ⟨hc, hf, hz⟩ := hb.facts) | (go_at_call 12; refine (impl_MoveText _ _).mono ?_; rintro e w1 ⟨rfl, hb⟩; obtain ⟨hc, hf, hz⟩ := hb.facts))
  all_goals go_ret
  all_goals refine ⟨rfl, ?_⟩
  all_goals (repeat (first | exact Ext.refl _ | assumption | refine Ext.alloc ?_ _ | refine Ext.drew ?_ | refine Ext.drewN ?_ _ | refine Ext.setCell ?_ (by first | (simp; done) | (simp; omega)) _ | refine Ext.trans ?_ (by assumption)))
end Go.Proofs.YtcmbjkidgemdaaaDoor
