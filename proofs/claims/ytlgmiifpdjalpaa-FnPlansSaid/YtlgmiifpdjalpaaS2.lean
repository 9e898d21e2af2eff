/- Contracts of Stricter, JoinLoans, Breaches; no condition but what stands at each theorem. -/
import Derived.Test.YtlgmiifpdjalpaaS1
import Derived.Deep.RegionWith
namespace Go.Proofs.Ytlgmiifpdjalpaa
set_option linter.unusedSimpArgs false
set_option linter.unusedVariables false
open Go.RowKit
def strOk (a b : GLoan) : Bool := loOk a && loOk b && decide (a.l ≤ b.l) && decide (b.lo ≤ a.lo) && decide (a.hi ≤ b.hi) && decide (b.g ≤ a.g)
set_option maxRecDepth 100000 in
set_option maxHeartbeats 1000000 in
theorem impl_Stricter (a b : GLoan) (w : World) :
    Calls Try.prog 23 #[.agg #[.int .i64 a.l, .int .i64 a.lo, .int .i64 a.hi, .int .i64 a.g], .agg #[.int .i64 b.l, .int .i64 b.lo, .int .i64 b.hi, .int .i64 b.g]] w fun e w' => e = .returned (.bool (strOk a b)) ∧ Ext w w' := by
  go_enter Try.func23, Try.ntmps23
  go_wp2_with (first | (go_at_call 24; refine (impl_LoanOk _ _).mono ?_; rintro e w1 ⟨rfl, hb⟩; have hs := hb.size; (try simp at hs); have k0 := hb.cellAt (w.heap.size) (by first | omega | (simp; done) | (simp; omega)); have m0 : w1.heap.size ≠ w.heap.size := (by omega); have l0 : w.heap.size < w1.heap.size := (by omega); have k1 := hb.cellAt (w.heap.size + 1) (by first | omega | (simp; done) | (simp; omega)); have m1 : w1.heap.size ≠ w.heap.size + 1 := (by omega); have l1 : w.heap.size + 1 < w1.heap.size := (by omega)))
  all_goals go_ret
  all_goals refine ⟨ret_bool ?_, ?_⟩
  all_goals first | ((repeat (first | exact Ext.refl _ | assumption | refine Ext.alloc ?_ _ | refine Ext.drew ?_ | refine Ext.drewN ?_ _ | refine Ext.setCell ?_ (by first | (simp; done) | (simp; omega)) _ | refine Ext.trans ?_ (by assumption))); done) | (go_light; first | (simp_all [strOk]; done) | (simp_all [strOk]; omega) | (simp [strOk, inB]; omega))
def breach (l : GLoan) (c : GClimate) : Int := if loOk l then (if l.l < c.l then 1 else 0) + (if inB c.h l.lo l.hi then 0 else 2) + (if c.g < l.g then 4 else 0) else 7
set_option maxRecDepth 100000 in
set_option maxHeartbeats 1000000 in
theorem impl_Breaches (a : GLoan) (b : GClimate) (w : World) :
    Calls Try.prog 22 #[.agg #[.int .i64 a.l, .int .i64 a.lo, .int .i64 a.hi, .int .i64 a.g], .agg #[.int .i64 b.l, .int .i64 b.h, .int .i64 b.g]] w fun e w' => e = .returned (.int .i64 (breach a b)) ∧ Ext w w' := by
  go_enter Try.func22, Try.ntmps22
  go_wp2_with (first | (go_at_call 24; refine (impl_LoanOk _ _).mono ?_; rintro e w1 ⟨rfl, hb⟩; have hs := hb.size; (try simp at hs); have k0 := hb.cellAt (w.heap.size) (by first | omega | (simp; done) | (simp; omega)); have m0 : w1.heap.size ≠ w.heap.size := (by omega); have l0 : w.heap.size < w1.heap.size := (by omega); have k1 := hb.cellAt (w.heap.size + 1) (by first | omega | (simp; done) | (simp; omega)); have m1 : w1.heap.size ≠ w.heap.size + 1 := (by omega); have l1 : w.heap.size + 1 < w1.heap.size := (by omega)) | (go_at_call 81; refine (impl_between _ _ _ _).mono ?_; rintro e w1 ⟨rfl, rfl⟩))
  all_goals go_ret
  all_goals refine ⟨ret_int ?_, ?_⟩
  all_goals first | ((repeat (first | exact Ext.refl _ | assumption | refine Ext.alloc ?_ _ | refine Ext.drew ?_ | refine Ext.drewN ?_ _ | refine Ext.setCell ?_ (by first | (simp; done) | (simp; omega)) _ | refine Ext.trans ?_ (by assumption))); done) | (go_light; simp_all [breach]; done) | (go_light; simp_all [breach]; omega)
set_option maxRecDepth 100000 in
set_option maxHeartbeats 1000000 in
theorem spec_Breaches (a : GLoan) (b : GClimate) (w : World) :
    Calls Try.prog 88 #[.agg #[.int .i64 a.l, .int .i64 a.lo, .int .i64 a.hi, .int .i64 a.g], .agg #[.int .i64 b.l, .int .i64 b.h, .int .i64 b.g]] w fun e w' => e = .returned (.int .i64 (breach a b)) ∧ Ext w w' := by
  go_enter Try.func88, Try.ntmps88
  go_wp2_with (first | (go_at_call 123; refine (spec_LoanOk _ _).mono ?_; rintro e w1 ⟨rfl, hb⟩; have hs := hb.size; (try simp at hs); have k0 := hb.cellAt (w.heap.size) (by first | omega | (simp; done) | (simp; omega)); have m0 : w1.heap.size ≠ w.heap.size := (by omega); have l0 : w.heap.size < w1.heap.size := (by omega); have k1 := hb.cellAt (w.heap.size + 1) (by first | omega | (simp; done) | (simp; omega)); have m1 : w1.heap.size ≠ w.heap.size + 1 := (by omega); have l1 : w.heap.size + 1 < w1.heap.size := (by omega)) | (go_at_call 83; refine (spec_l01In _ _ _ _).mono ?_; rintro e w1 ⟨rfl, rfl⟩))
  all_goals go_ret
  all_goals refine ⟨ret_int ?_, ?_⟩
  all_goals first | ((repeat (first | exact Ext.refl _ | assumption | refine Ext.alloc ?_ _ | refine Ext.drew ?_ | refine Ext.drewN ?_ _ | refine Ext.setCell ?_ (by first | (simp; done) | (simp; omega)) _ | refine Ext.trans ?_ (by assumption))); done) | (go_light; simp_all [breach]; done) | (go_light; simp_all [breach]; omega)
def joinD (a b : GLoan) : GLoan := ⟨imin a.l b.l, imax a.lo b.lo, imin a.hi b.hi, imax a.g b.g⟩
def joinOk (a b : GLoan) : Bool := loOk a && loOk b && loOk (joinD a b)
def joinL (a b : GLoan) : GLoan := if joinOk a b then joinD a b else ⟨0, 0, 0, 0⟩
set_option maxRecDepth 100000 in
set_option maxHeartbeats 1000000 in
theorem impl_JoinLoans (a b : GLoan) (w : World) :
    Calls Try.prog 19 #[.agg #[.int .i64 a.l, .int .i64 a.lo, .int .i64 a.hi, .int .i64 a.g], .agg #[.int .i64 b.l, .int .i64 b.lo, .int .i64 b.hi, .int .i64 b.g]] w fun e w' => ∃ r : GLoan, r = joinL a b ∧ e = .returned (.tuple #[.agg #[.int .i64 r.l, .int .i64 r.lo, .int .i64 r.hi, .int .i64 r.g], .bool (joinOk a b)]) ∧ Ext w w' := by
  have hmin := @run_imin Try.prog
  have hmax := @run_imax Try.prog
  go_enter Try.func19, Try.ntmps19
  go_wp2_with (first
    | (go_at_call_of 24 (Value.int IntKind.i64 a.l); refine (impl_LoanOk a _).mono ?_; rintro e w1 ⟨rfl, hb⟩; have hs := hb.size; (try simp at hs); have k0 := hb.cellAt (w.heap.size) (by first | omega | (simp; done) | (simp; omega)); have f0 := hb.frozenAt (w.heap.size) (by first | omega | (simp; done) | (simp; omega)); have k1 := hb.cellAt (w.heap.size + 1) (by first | omega | (simp; done) | (simp; omega)); have f1 := hb.frozenAt (w.heap.size + 1) (by first | omega | (simp; done) | (simp; omega)); have k2 := hb.cellAt (w.heap.size + 1 + 1) (by first | omega | (simp; done) | (simp; omega)); have f2 := hb.frozenAt (w.heap.size + 1 + 1) (by first | omega | (simp; done) | (simp; omega)); have k3 := hb.cellAt (w.heap.size + 1 + 1 + 1) (by first | omega | (simp; done) | (simp; omega)); have f3 := hb.frozenAt (w.heap.size + 1 + 1 + 1) (by first | omega | (simp; done) | (simp; omega)))
    | (go_at_call_of 24 (Value.int IntKind.i64 b.l); refine (impl_LoanOk b _).mono ?_; rintro e w1 ⟨rfl, hb⟩; have hs := hb.size; (try simp at hs); have k0 := hb.cellAt (w.heap.size) (by first | omega | (simp; done) | (simp; omega)); have f0 := hb.frozenAt (w.heap.size) (by first | omega | (simp; done) | (simp; omega)); have k1 := hb.cellAt (w.heap.size + 1) (by first | omega | (simp; done) | (simp; omega)); have f1 := hb.frozenAt (w.heap.size + 1) (by first | omega | (simp; done) | (simp; omega)); have k2 := hb.cellAt (w.heap.size + 1 + 1) (by first | omega | (simp; done) | (simp; omega)); have f2 := hb.frozenAt (w.heap.size + 1 + 1) (by first | omega | (simp; done) | (simp; omega)); have k3 := hb.cellAt (w.heap.size + 1 + 1 + 1) (by first | omega | (simp; done) | (simp; omega)); have f3 := hb.frozenAt (w.heap.size + 1 + 1 + 1) (by first | omega | (simp; done) | (simp; omega)))
    | (go_at_call_of 24 (Value.int IntKind.i64 (imin a.l b.l)); refine (impl_LoanOk (joinD a b) _).mono ?_; rintro e w1 ⟨rfl, hb⟩; have hs := hb.size; (try simp at hs); have k0 := hb.cellAt (w.heap.size) (by first | omega | (simp; done) | (simp; omega)); have f0 := hb.frozenAt (w.heap.size) (by first | omega | (simp; done) | (simp; omega)); have k1 := hb.cellAt (w.heap.size + 1) (by first | omega | (simp; done) | (simp; omega)); have f1 := hb.frozenAt (w.heap.size + 1) (by first | omega | (simp; done) | (simp; omega)); have k2 := hb.cellAt (w.heap.size + 1 + 1) (by first | omega | (simp; done) | (simp; omega)); have f2 := hb.frozenAt (w.heap.size + 1 + 1) (by first | omega | (simp; done) | (simp; omega)); have k3 := hb.cellAt (w.heap.size + 1 + 1 + 1) (by first | omega | (simp; done) | (simp; omega)); have f3 := hb.frozenAt (w.heap.size + 1 + 1 + 1) (by first | omega | (simp; done) | (simp; omega))))
  all_goals first
    | (have hj : joinOk a b = true := by (go_light; simp_all [joinOk]; done)
       refine bodyPost_ret (v := .tuple #[.agg #[.int .i64 (joinD a b).l, .int .i64 (joinD a b).lo, .int .i64 (joinD a b).hi, .int .i64 (joinD a b).g], .bool true]) (by simp [results, Try.results19, go_sem, *, joinD]) rfl ⟨joinD a b, by rw [joinL, if_pos hj], by rw [hj], ?_⟩
       (repeat (first | exact Ext.refl _ | assumption | refine Ext.alloc ?_ _ | refine Ext.drew ?_ | refine Ext.drewN ?_ _ | refine Ext.setCell ?_ (by first | (simp; done) | (simp; omega)) _ | refine Ext.trans ?_ (by assumption)))
       done)
    | (have hj : joinOk a b = false := by (go_light; simp_all [joinOk]; done)
       refine bodyPost_ret (v := .tuple #[.agg #[.int .i64 (GLoan.mk 0 0 0 0).l, .int .i64 (GLoan.mk 0 0 0 0).lo, .int .i64 (GLoan.mk 0 0 0 0).hi, .int .i64 (GLoan.mk 0 0 0 0).g], .bool false]) (by simp [results, Try.results19, go_sem, *]) rfl ⟨⟨0, 0, 0, 0⟩, by rw [joinL, if_neg (by rw [hj]; decide)], by rw [hj], ?_⟩
       (repeat (first | exact Ext.refl _ | assumption | refine Ext.alloc ?_ _ | refine Ext.drew ?_ | refine Ext.drewN ?_ _ | refine Ext.setCell ?_ (by first | (simp; done) | (simp; omega)) _ | refine Ext.trans ?_ (by assumption)))
       done)
end Go.Proofs.Ytlgmiifpdjalpaa
