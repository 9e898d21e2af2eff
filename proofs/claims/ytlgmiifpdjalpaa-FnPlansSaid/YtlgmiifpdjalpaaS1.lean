/- A text of lemmas for the laws of this seat; what each says stands at its theorem; no condition. -/
import Derived.Test.YtlgmiifpdjalpaaT1
namespace Go.Proofs.Ytlgmiifpdjalpaa
set_option linter.unusedSimpArgs false
set_option linter.unusedVariables false
open Go.RowKit
/-! Contracts of the functions on plain structs. -/
set_option maxRecDepth 100000 in
set_option maxHeartbeats 400000 in
theorem impl_between (n lo hi : Int) (w : World) :
    Calls Try.prog 81 #[.int .i64 n, .int .i64 lo, .int .i64 hi] w fun e w' => e = .returned (.bool (inB n lo hi)) ∧ w = w' := by
  go_enter Try.func81, Try.ntmps81
  go_wp2
  all_goals go_ret
  all_goals exact ⟨ret_bool (by simp [inB]; omega), rfl⟩
set_option maxRecDepth 100000 in
set_option maxHeartbeats 400000 in
theorem spec_l01In (n lo hi : Int) (w : World) :
    Calls Try.prog 83 #[.int .i64 n, .int .i64 lo, .int .i64 hi] w fun e w' => e = .returned (.bool (inB n lo hi)) ∧ w = w' := by
  go_enter Try.func83, Try.ntmps83
  go_wp2
  all_goals go_ret
  all_goals exact ⟨ret_bool (by simp [inB]; omega), rfl⟩
def shOk (s : GShift) : Bool := inB s.g 0 20 && inB s.f 0 10000 && inB s.t 0 10000 && decide (s.f < s.t)
set_option maxRecDepth 100000 in
set_option maxHeartbeats 400000 in
theorem impl_ShiftOk (s : GShift) (w : World) :
    Calls Try.prog 110 #[.agg #[.int .i64 s.g, .int .i64 s.f, .int .i64 s.t]] w fun e w' => e = .returned (.bool (shOk s)) ∧ Ext w w' := by
  go_enter Try.func110, Try.ntmps110
  go_wp2
  all_goals go_ret
  all_goals refine ⟨ret_bool ?_, ?_⟩
  all_goals first | ((repeat (first | exact Ext.refl _ | assumption | refine Ext.alloc ?_ _ | refine Ext.drew ?_ | refine Ext.drewN ?_ _ | refine Ext.setCell ?_ (by first | (simp; done) | (simp; omega)) _ | refine Ext.trans ?_ (by assumption))); done) | (go_light; first | (simp_all [shOk, inB]; done) | (simp_all [shOk, inB]; omega) | (simp [shOk, inB]; omega))
set_option maxRecDepth 100000 in
set_option maxHeartbeats 400000 in
theorem spec_ShiftOk (s : GShift) (w : World) :
    Calls Try.prog 122 #[.agg #[.int .i64 s.g, .int .i64 s.f, .int .i64 s.t]] w fun e w' => e = .returned (.bool (shOk s)) ∧ Ext w w' := by
  go_enter Try.func122, Try.ntmps122
  go_wp2
  all_goals go_ret
  all_goals refine ⟨ret_bool ?_, ?_⟩
  all_goals first | ((repeat (first | exact Ext.refl _ | assumption | refine Ext.alloc ?_ _ | refine Ext.drew ?_ | refine Ext.drewN ?_ _ | refine Ext.setCell ?_ (by first | (simp; done) | (simp; omega)) _ | refine Ext.trans ?_ (by assumption))); done) | (go_light; first | (simp_all [shOk, inB]; done) | (simp_all [shOk, inB]; omega) | (simp [shOk, inB]; omega))
def loOk (s : GLoan) : Bool := inB s.l 0 1000 && inB s.g 0 1000 && inB s.lo 0 100 && inB s.hi 0 100 && decide (s.lo ≤ s.hi)
set_option maxRecDepth 100000 in
set_option maxHeartbeats 400000 in
theorem impl_LoanOk (s : GLoan) (w : World) :
    Calls Try.prog 24 #[.agg #[.int .i64 s.l, .int .i64 s.lo, .int .i64 s.hi, .int .i64 s.g]] w fun e w' => e = .returned (.bool (loOk s)) ∧ Ext w w' := by
  go_enter Try.func24, Try.ntmps24
  go_wp2
  all_goals go_ret
  all_goals refine ⟨ret_bool ?_, ?_⟩
  all_goals first | ((repeat (first | exact Ext.refl _ | assumption | refine Ext.alloc ?_ _ | refine Ext.drew ?_ | refine Ext.drewN ?_ _ | refine Ext.setCell ?_ (by first | (simp; done) | (simp; omega)) _ | refine Ext.trans ?_ (by assumption))); done) | (go_light; first | (simp_all [loOk, inB]; done) | (simp_all [loOk, inB]; omega) | (simp [loOk, inB]; omega))
set_option maxRecDepth 100000 in
set_option maxHeartbeats 400000 in
theorem spec_LoanOk (s : GLoan) (w : World) :
    Calls Try.prog 123 #[.agg #[.int .i64 s.l, .int .i64 s.lo, .int .i64 s.hi, .int .i64 s.g]] w fun e w' => e = .returned (.bool (loOk s)) ∧ Ext w w' := by
  go_enter Try.func123, Try.ntmps123
  go_wp2
  all_goals go_ret
  all_goals refine ⟨ret_bool ?_, ?_⟩
  all_goals first | ((repeat (first | exact Ext.refl _ | assumption | refine Ext.alloc ?_ _ | refine Ext.drew ?_ | refine Ext.drewN ?_ _ | refine Ext.setCell ?_ (by first | (simp; done) | (simp; omega)) _ | refine Ext.trans ?_ (by assumption))); done) | (go_light; first | (simp_all [loOk, inB]; done) | (simp_all [loOk, inB]; omega) | (simp [loOk, inB]; omega))
def acOk (s : GAct) : Bool :=
  if s.k == 1 then inB s.a 0 5 && inB s.b 0 6 && s.c == 0 && s.d == 0 else if s.k == 2 then inB s.a 0 5 && inB s.b 0 6 && inB s.c 0 5 && inB s.d 0 5
  else if s.k == 3 then inB s.a 1 1000 && s.b == 0 && s.c == 0 && s.d == 0 else if s.k == 5 then inB s.a 0 5 && s.b == 0 && s.c == 0 && s.d == 0
  else if s.k == 4 then s.a == 0 && s.b == 0 && s.c == 0 && s.d == 0 else false
end Go.Proofs.Ytlgmiifpdjalpaa
