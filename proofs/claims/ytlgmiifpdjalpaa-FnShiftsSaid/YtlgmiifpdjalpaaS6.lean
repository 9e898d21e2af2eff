/- LeastOnDuty: contracts, and that both ways come to the same; no condition but what stands at each theorem. -/
import Derived.Test.YtlgmiifpdjalpaaS4
import Derived.Test.YtlgmiifpdjalpaaK6
namespace Go.Proofs.Ytlgmiifpdjalpaa
set_option linter.unusedSimpArgs false
set_option linter.unusedVariables false
open Go.RowKit
def lodOk (xs : List GShift) (fr to : Int) : Bool := allSh xs && inB fr 0 10000 && inB to 0 10000 && decide (fr < to)
def leastI (xs : List GShift) (fr to : Int) : Int := if lodOk xs fr to = true then (List.range (to - fr).toNat).foldl (fun z (j : Nat) => imin z (onDuty xs (fr + j))) xs.length else -1
def endStep (xs : List GShift) (fr to : Int) (z : Int) (x : GShift) : Int := if inB x.t fr (to - 1) = true then imin z (onDuty xs x.t) else z
def leastS (xs : List GShift) (fr to : Int) : Int := if lodOk xs fr to = true then xs.foldl (endStep xs fr to) (onDuty xs fr) else -1
set_option maxRecDepth 100000 in
set_option maxHeartbeats 2000000 in
theorem impl_LeastOnDuty (A : Option Addr) (n c : Nat) (xs : List GShift) (fr to : Int) (w : World) (hx : Rd w 3 A n (xs.flatMap GShift.enc)) :
    Calls Try.prog 28 #[.slice A n c, .int .i64 fr, .int .i64 to] w fun e w' => e = .returned (.int .i64 (leastI xs fr to)) ∧ Ext w w' := by
  have hn := hx.2.1
  have hl := Lib.hid (hx.len GShift.len (by omega))
  cases hv : allSh xs with
  | false =>
    go_enter Try.func28, Try.ntmps28
    go_wp2_with (first
      | (go_at_call 86; refine (impl_allShifts _ _ _ xs _ ?_).mono ?_; (focus (first | assumption | (refine Rd.keep (by assumption) ?_; (repeat (first | exact Ext.refl _ | assumption | refine Ext.alloc ?_ _ | refine Ext.drew ?_ | refine Ext.drewN ?_ _ | refine Ext.setCell ?_ (by first | (simp; done) | (simp; omega)) _ | refine Ext.trans ?_ (by assumption))); done) | (refine Rd.keep (Rd.of_own (by assumption)) ?_; (repeat (first | exact Ext.refl _ | assumption | refine Ext.alloc ?_ _ | refine Ext.drew ?_ | refine Ext.drewN ?_ _ | refine Ext.setCell ?_ (by first | (simp; done) | (simp; omega)) _ | refine Ext.trans ?_ (by assumption))); done))); rintro e w1 ⟨he, hb0⟩; rw [show (xs.all shOk && decide (xs.length ≤ 20)) = false from hv] at he; subst he)
      | (go_at_call_of 81 (Value.int IntKind.i64 fr); refine (impl_between fr _ _ _).mono ?_; rintro e w1 ⟨he, rfl⟩; rw [hf] at he; subst he)
      | (go_at_call_of 81 (Value.int IntKind.i64 to); refine (impl_between to _ _ _).mono ?_; rintro e w1 ⟨he, rfl⟩; rw [ht] at he; subst he))
    go_ret
    exact ⟨ret_int (by rw [leastI, lodOk, hv]; rfl), by (repeat (first | exact Ext.refl _ | assumption | refine Ext.alloc ?_ _ | refine Ext.drew ?_ | refine Ext.drewN ?_ _ | refine Ext.setCell ?_ (by first | (simp; done) | (simp; omega)) _ | refine Ext.trans ?_ (by assumption)))⟩
  | true =>
  cases hf : inB fr 0 10000 with
  | false =>
    go_enter Try.func28, Try.ntmps28
    go_wp2_with (first
      | (go_at_call 86; refine (impl_allShifts _ _ _ xs _ ?_).mono ?_; (focus (first | assumption | (refine Rd.keep (by assumption) ?_; (repeat (first | exact Ext.refl _ | assumption | refine Ext.alloc ?_ _ | refine Ext.drew ?_ | refine Ext.drewN ?_ _ | refine Ext.setCell ?_ (by first | (simp; done) | (simp; omega)) _ | refine Ext.trans ?_ (by assumption))); done) | (refine Rd.keep (Rd.of_own (by assumption)) ?_; (repeat (first | exact Ext.refl _ | assumption | refine Ext.alloc ?_ _ | refine Ext.drew ?_ | refine Ext.drewN ?_ _ | refine Ext.setCell ?_ (by first | (simp; done) | (simp; omega)) _ | refine Ext.trans ?_ (by assumption))); done))); rintro e w1 ⟨he, hb0⟩; rw [show (xs.all shOk && decide (xs.length ≤ 20)) = true from hv] at he; subst he)
      | (go_at_call_of 81 (Value.int IntKind.i64 fr); refine (impl_between fr _ _ _).mono ?_; rintro e w1 ⟨he, rfl⟩; rw [hf] at he; subst he)
      | (go_at_call_of 81 (Value.int IntKind.i64 to); refine (impl_between to _ _ _).mono ?_; rintro e w1 ⟨he, rfl⟩; rw [ht] at he; subst he))
    go_ret
    exact ⟨ret_int (by rw [leastI, lodOk, hv, hf]; rfl), by (repeat (first | exact Ext.refl _ | assumption | refine Ext.alloc ?_ _ | refine Ext.drew ?_ | refine Ext.drewN ?_ _ | refine Ext.setCell ?_ (by first | (simp; done) | (simp; omega)) _ | refine Ext.trans ?_ (by assumption)))⟩
  | true =>
  cases ht : inB to 0 10000 with
  | false =>
    go_enter Try.func28, Try.ntmps28
    go_wp2_with (first
      | (go_at_call 86; refine (impl_allShifts _ _ _ xs _ ?_).mono ?_; (focus (first | assumption | (refine Rd.keep (by assumption) ?_; (repeat (first | exact Ext.refl _ | assumption | refine Ext.alloc ?_ _ | refine Ext.drew ?_ | refine Ext.drewN ?_ _ | refine Ext.setCell ?_ (by first | (simp; done) | (simp; omega)) _ | refine Ext.trans ?_ (by assumption))); done) | (refine Rd.keep (Rd.of_own (by assumption)) ?_; (repeat (first | exact Ext.refl _ | assumption | refine Ext.alloc ?_ _ | refine Ext.drew ?_ | refine Ext.drewN ?_ _ | refine Ext.setCell ?_ (by first | (simp; done) | (simp; omega)) _ | refine Ext.trans ?_ (by assumption))); done))); rintro e w1 ⟨he, hb0⟩; rw [show (xs.all shOk && decide (xs.length ≤ 20)) = true from hv] at he; subst he)
      | (go_at_call_of 81 (Value.int IntKind.i64 fr); refine (impl_between fr _ _ _).mono ?_; rintro e w1 ⟨he, rfl⟩; rw [hf] at he; subst he)
      | (go_at_call_of 81 (Value.int IntKind.i64 to); refine (impl_between to _ _ _).mono ?_; rintro e w1 ⟨he, rfl⟩; rw [ht] at he; subst he))
    go_ret
    exact ⟨ret_int (by rw [leastI, lodOk, hv, hf, ht]; rfl), by (repeat (first | exact Ext.refl _ | assumption | refine Ext.alloc ?_ _ | refine Ext.drew ?_ | refine Ext.drewN ?_ _ | refine Ext.setCell ?_ (by first | (simp; done) | (simp; omega)) _ | refine Ext.trans ?_ (by assumption)))⟩
  | true =>
  by_cases hft : fr < to
  case neg =>
    go_enter Try.func28, Try.ntmps28
    go_wp2_with (first
      | (go_at_call 86; refine (impl_allShifts _ _ _ xs _ ?_).mono ?_; (focus (first | assumption | (refine Rd.keep (by assumption) ?_; (repeat (first | exact Ext.refl _ | assumption | refine Ext.alloc ?_ _ | refine Ext.drew ?_ | refine Ext.drewN ?_ _ | refine Ext.setCell ?_ (by first | (simp; done) | (simp; omega)) _ | refine Ext.trans ?_ (by assumption))); done) | (refine Rd.keep (Rd.of_own (by assumption)) ?_; (repeat (first | exact Ext.refl _ | assumption | refine Ext.alloc ?_ _ | refine Ext.drew ?_ | refine Ext.drewN ?_ _ | refine Ext.setCell ?_ (by first | (simp; done) | (simp; omega)) _ | refine Ext.trans ?_ (by assumption))); done))); rintro e w1 ⟨he, hb0⟩; rw [show (xs.all shOk && decide (xs.length ≤ 20)) = true from hv] at he; subst he)
      | (go_at_call_of 81 (Value.int IntKind.i64 fr); refine (impl_between fr _ _ _).mono ?_; rintro e w1 ⟨he, rfl⟩; rw [hf] at he; subst he)
      | (go_at_call_of 81 (Value.int IntKind.i64 to); refine (impl_between to _ _ _).mono ?_; rintro e w1 ⟨he, rfl⟩; rw [ht] at he; subst he))
    go_ret
    exact ⟨ret_int (by rw [leastI, lodOk, hv, hf, ht, decide_eq_false (by omega)]; rfl), by (repeat (first | exact Ext.refl _ | assumption | refine Ext.alloc ?_ _ | refine Ext.drew ?_ | refine Ext.drewN ?_ _ | refine Ext.setCell ?_ (by first | (simp; done) | (simp; omega)) _ | refine Ext.trans ?_ (by assumption)))⟩
  have hok : lodOk xs fr to = true := by rw [lodOk, hv, hf, ht]; simp [hft]
  have HOK := Lib.hid hok
  clear hok
  have hf1 : 0 ≤ fr ∧ fr ≤ 10000 := by simpa [inB] using hf
  have ht1 : 0 ≤ to ∧ to ≤ 10000 := by simpa [inB] using ht
  obtain ⟨hf1, hf2⟩ := hf1
  obtain ⟨ht1, ht2⟩ := ht1
  have hmin := @run_imin Try.prog
  go_enter Try.func28, Try.ntmps28
  go_wp2_with (first
      | (go_at_call 86; refine (impl_allShifts _ _ _ xs _ ?_).mono ?_; (focus (first | assumption | (refine Rd.keep (by assumption) ?_; (repeat (first | exact Ext.refl _ | assumption | refine Ext.alloc ?_ _ | refine Ext.drew ?_ | refine Ext.drewN ?_ _ | refine Ext.setCell ?_ (by first | (simp; done) | (simp; omega)) _ | refine Ext.trans ?_ (by assumption))); done) | (refine Rd.keep (Rd.of_own (by assumption)) ?_; (repeat (first | exact Ext.refl _ | assumption | refine Ext.alloc ?_ _ | refine Ext.drew ?_ | refine Ext.drewN ?_ _ | refine Ext.setCell ?_ (by first | (simp; done) | (simp; omega)) _ | refine Ext.trans ?_ (by assumption))); done))); rintro e w1 ⟨he, hb0⟩; rw [show (xs.all shOk && decide (xs.length ≤ 20)) = true from hv] at he; subst he)
      | (go_at_call_of 81 (Value.int IntKind.i64 fr); refine (impl_between fr _ _ _).mono ?_; rintro e w1 ⟨he, rfl⟩; rw [hf] at he; subst he)
      | (go_at_call_of 81 (Value.int IntKind.i64 to); refine (impl_between to _ _ _).mono ?_; rintro e w1 ⟨he, rfl⟩; rw [ht] at he; subst he))
  clear hv hf ht
  go_loopw [7, 8] (fun o i wr => ∃ (k : Nat) (z : Int), fr + k ≤ to ∧ i = .int .i64 (fr + k) ∧ o = .int .i64 z ∧ Hid (z = (List.range k).foldl (fun z (j : Nat) => imin z (onDuty xs (fr + j))) xs.length) ∧ Ext w wr) (fun _ i _ => (to - intOf i).toNat)
  case atStart => exact ⟨0, (n : Int), by omega, by simp, rfl, by unfold Hid; rw [hl.out]; rfl, hb0⟩
  case round =>
    obtain ⟨k, z, hk, rfl, rfl, hz, hb⟩ := hrel
    have hxr := Lib.hid (hx.keep hb)
    have HB := Lib.hid hb
    clear hb hb0
    by_cases hlt : fr + k < to
    · go_wp2_with (go_at_call 62; refine (impl_OnDuty _ _ _ xs _ _ hxr.out).mono ?_; rintro e w1 ⟨rfl, hb1⟩)
      go_roundw
      case rel => exact ⟨k + 1, _, by omega, mark_num (by push_cast; omega), rfl, by unfold Hid; rw [List.range_succ, List.foldl_append, ← hz.out]; rfl, HB.out.trans hb1⟩
      case measure => simp [intOf]; omega
    · go_wp2_with fail
      go_ret
      exact ⟨ret_int (by rw [hz.out, leastI, if_pos HOK.out, show k = (to - fr).toNat by omega]), HB.out⟩
set_option maxRecDepth 100000 in
set_option maxHeartbeats 2000000 in
theorem spec_LeastOnDuty (A : Option Addr) (n c : Nat) (xs : List GShift) (fr to : Int) (w : World) (hx : Rd w 3 A n (xs.flatMap GShift.enc)) :
    Calls Try.prog 26 #[.slice A n c, .int .i64 fr, .int .i64 to] w fun e w' => e = .returned (.int .i64 (leastS xs fr to)) ∧ Ext w w' := by
  have hn := hx.2.1
  have hl := Lib.hid (hx.len GShift.len (by omega))
  cases hv : allSh xs with
  | false =>
    go_enter Try.func26, Try.ntmps26
    go_wp2_with (first
      | (go_at_call 82; refine (spec_l32Valid _ _ _ xs _ ?_).mono ?_; (focus (first | assumption | (refine Rd.keep (by assumption) ?_; (repeat (first | exact Ext.refl _ | assumption | refine Ext.alloc ?_ _ | refine Ext.drew ?_ | refine Ext.drewN ?_ _ | refine Ext.setCell ?_ (by first | (simp; done) | (simp; omega)) _ | refine Ext.trans ?_ (by assumption))); done) | (refine Rd.keep (Rd.of_own (by assumption)) ?_; (repeat (first | exact Ext.refl _ | assumption | refine Ext.alloc ?_ _ | refine Ext.drew ?_ | refine Ext.drewN ?_ _ | refine Ext.setCell ?_ (by first | (simp; done) | (simp; omega)) _ | refine Ext.trans ?_ (by assumption))); done))); rintro e w1 ⟨he, hb0⟩; rw [show (xs.all shOk && decide (xs.length ≤ 20)) = false from hv] at he; subst he)
      | (go_at_call_of 83 (Value.int IntKind.i64 fr); refine (spec_l01In fr _ _ _).mono ?_; rintro e w1 ⟨he, rfl⟩; rw [hf] at he; subst he)
      | (go_at_call_of 83 (Value.int IntKind.i64 to); refine (spec_l01In to _ _ _).mono ?_; rintro e w1 ⟨he, rfl⟩; rw [ht] at he; subst he))
    go_ret
    exact ⟨ret_int (by rw [leastS, lodOk, hv]; rfl), by (repeat (first | exact Ext.refl _ | assumption | refine Ext.alloc ?_ _ | refine Ext.drew ?_ | refine Ext.drewN ?_ _ | refine Ext.setCell ?_ (by first | (simp; done) | (simp; omega)) _ | refine Ext.trans ?_ (by assumption)))⟩
  | true =>
  cases hf : inB fr 0 10000 with
  | false =>
    go_enter Try.func26, Try.ntmps26
    go_wp2_with (first
      | (go_at_call 82; refine (spec_l32Valid _ _ _ xs _ ?_).mono ?_; (focus (first | assumption | (refine Rd.keep (by assumption) ?_; (repeat (first | exact Ext.refl _ | assumption | refine Ext.alloc ?_ _ | refine Ext.drew ?_ | refine Ext.drewN ?_ _ | refine Ext.setCell ?_ (by first | (simp; done) | (simp; omega)) _ | refine Ext.trans ?_ (by assumption))); done) | (refine Rd.keep (Rd.of_own (by assumption)) ?_; (repeat (first | exact Ext.refl _ | assumption | refine Ext.alloc ?_ _ | refine Ext.drew ?_ | refine Ext.drewN ?_ _ | refine Ext.setCell ?_ (by first | (simp; done) | (simp; omega)) _ | refine Ext.trans ?_ (by assumption))); done))); rintro e w1 ⟨he, hb0⟩; rw [show (xs.all shOk && decide (xs.length ≤ 20)) = true from hv] at he; subst he)
      | (go_at_call_of 83 (Value.int IntKind.i64 fr); refine (spec_l01In fr _ _ _).mono ?_; rintro e w1 ⟨he, rfl⟩; rw [hf] at he; subst he)
      | (go_at_call_of 83 (Value.int IntKind.i64 to); refine (spec_l01In to _ _ _).mono ?_; rintro e w1 ⟨he, rfl⟩; rw [ht] at he; subst he))
    go_ret
    exact ⟨ret_int (by rw [leastS, lodOk, hv, hf]; rfl), by (repeat (first | exact Ext.refl _ | assumption | refine Ext.alloc ?_ _ | refine Ext.drew ?_ | refine Ext.drewN ?_ _ | refine Ext.setCell ?_ (by first | (simp; done) | (simp; omega)) _ | refine Ext.trans ?_ (by assumption)))⟩
  | true =>
  cases ht : inB to 0 10000 with
  | false =>
    go_enter Try.func26, Try.ntmps26
    go_wp2_with (first
      | (go_at_call 82; refine (spec_l32Valid _ _ _ xs _ ?_).mono ?_; (focus (first | assumption | (refine Rd.keep (by assumption) ?_; (repeat (first | exact Ext.refl _ | assumption | refine Ext.alloc ?_ _ | refine Ext.drew ?_ | refine Ext.drewN ?_ _ | refine Ext.setCell ?_ (by first | (simp; done) | (simp; omega)) _ | refine Ext.trans ?_ (by assumption))); done) | (refine Rd.keep (Rd.of_own (by assumption)) ?_; (repeat (first | exact Ext.refl _ | assumption | refine Ext.alloc ?_ _ | refine Ext.drew ?_ | refine Ext.drewN ?_ _ | refine Ext.setCell ?_ (by first | (simp; done) | (simp; omega)) _ | refine Ext.trans ?_ (by assumption))); done))); rintro e w1 ⟨he, hb0⟩; rw [show (xs.all shOk && decide (xs.length ≤ 20)) = true from hv] at he; subst he)
      | (go_at_call_of 83 (Value.int IntKind.i64 fr); refine (spec_l01In fr _ _ _).mono ?_; rintro e w1 ⟨he, rfl⟩; rw [hf] at he; subst he)
      | (go_at_call_of 83 (Value.int IntKind.i64 to); refine (spec_l01In to _ _ _).mono ?_; rintro e w1 ⟨he, rfl⟩; rw [ht] at he; subst he))
    go_ret
    exact ⟨ret_int (by rw [leastS, lodOk, hv, hf, ht]; rfl), by (repeat (first | exact Ext.refl _ | assumption | refine Ext.alloc ?_ _ | refine Ext.drew ?_ | refine Ext.drewN ?_ _ | refine Ext.setCell ?_ (by first | (simp; done) | (simp; omega)) _ | refine Ext.trans ?_ (by assumption)))⟩
  | true =>
  by_cases hft : fr < to
  case neg =>
    go_enter Try.func26, Try.ntmps26
    go_wp2_with (first
      | (go_at_call 82; refine (spec_l32Valid _ _ _ xs _ ?_).mono ?_; (focus (first | assumption | (refine Rd.keep (by assumption) ?_; (repeat (first | exact Ext.refl _ | assumption | refine Ext.alloc ?_ _ | refine Ext.drew ?_ | refine Ext.drewN ?_ _ | refine Ext.setCell ?_ (by first | (simp; done) | (simp; omega)) _ | refine Ext.trans ?_ (by assumption))); done) | (refine Rd.keep (Rd.of_own (by assumption)) ?_; (repeat (first | exact Ext.refl _ | assumption | refine Ext.alloc ?_ _ | refine Ext.drew ?_ | refine Ext.drewN ?_ _ | refine Ext.setCell ?_ (by first | (simp; done) | (simp; omega)) _ | refine Ext.trans ?_ (by assumption))); done))); rintro e w1 ⟨he, hb0⟩; rw [show (xs.all shOk && decide (xs.length ≤ 20)) = true from hv] at he; subst he)
      | (go_at_call_of 83 (Value.int IntKind.i64 fr); refine (spec_l01In fr _ _ _).mono ?_; rintro e w1 ⟨he, rfl⟩; rw [hf] at he; subst he)
      | (go_at_call_of 83 (Value.int IntKind.i64 to); refine (spec_l01In to _ _ _).mono ?_; rintro e w1 ⟨he, rfl⟩; rw [ht] at he; subst he))
    go_ret
    exact ⟨ret_int (by rw [leastS, lodOk, hv, hf, ht, decide_eq_false (by omega)]; rfl), by (repeat (first | exact Ext.refl _ | assumption | refine Ext.alloc ?_ _ | refine Ext.drew ?_ | refine Ext.drewN ?_ _ | refine Ext.setCell ?_ (by first | (simp; done) | (simp; omega)) _ | refine Ext.trans ?_ (by assumption)))⟩
  have hok : lodOk xs fr to = true := by rw [lodOk, hv, hf, ht]; simp [hft]
  have HOK := Lib.hid hok
  clear hok
  have hf1 : 0 ≤ fr ∧ fr ≤ 10000 := by simpa [inB] using hf
  have ht1 : 0 ≤ to ∧ to ≤ 10000 := by simpa [inB] using ht
  obtain ⟨hf1, hf2⟩ := hf1
  obtain ⟨ht1, ht2⟩ := ht1
  have hmin := @run_imin Try.prog
  go_enter Try.func26, Try.ntmps26
  go_wp2_with (first
      | (go_at_call 82; refine (spec_l32Valid _ _ _ xs _ ?_).mono ?_; (focus (first | assumption | (refine Rd.keep (by assumption) ?_; (repeat (first | exact Ext.refl _ | assumption | refine Ext.alloc ?_ _ | refine Ext.drew ?_ | refine Ext.drewN ?_ _ | refine Ext.setCell ?_ (by first | (simp; done) | (simp; omega)) _ | refine Ext.trans ?_ (by assumption))); done) | (refine Rd.keep (Rd.of_own (by assumption)) ?_; (repeat (first | exact Ext.refl _ | assumption | refine Ext.alloc ?_ _ | refine Ext.drew ?_ | refine Ext.drewN ?_ _ | refine Ext.setCell ?_ (by first | (simp; done) | (simp; omega)) _ | refine Ext.trans ?_ (by assumption))); done))); rintro e w1 ⟨he, hb0⟩; rw [show (xs.all shOk && decide (xs.length ≤ 20)) = true from hv] at he; subst he)
      | (go_at_call_of 83 (Value.int IntKind.i64 fr); refine (spec_l01In fr _ _ _).mono ?_; rintro e w1 ⟨he, rfl⟩; rw [hf] at he; subst he)
      | (go_at_call_of 83 (Value.int IntKind.i64 to); refine (spec_l01In to _ _ _).mono ?_; rintro e w1 ⟨he, rfl⟩; rw [ht] at he; subst he)
      | (go_at_call 84; refine (spec_OnDuty _ _ _ xs fr _ ?_).mono ?_; (focus (first | assumption | (refine Rd.keep (by assumption) ?_; (repeat (first | exact Ext.refl _ | assumption | refine Ext.alloc ?_ _ | refine Ext.drew ?_ | refine Ext.drewN ?_ _ | refine Ext.setCell ?_ (by first | (simp; done) | (simp; omega)) _ | refine Ext.trans ?_ (by assumption))); done) | (refine Rd.keep (Rd.of_own (by assumption)) ?_; (repeat (first | exact Ext.refl _ | assumption | refine Ext.alloc ?_ _ | refine Ext.drew ?_ | refine Ext.drewN ?_ _ | refine Ext.setCell ?_ (by first | (simp; done) | (simp; omega)) _ | refine Ext.trans ?_ (by assumption))); done))); rintro e w1 ⟨rfl, hb1⟩))
  have hb2 := hb0.trans hb1
  clear hv hf ht hb0 hb1
  obtain ⟨d0, hd0⟩ : ∃ d0, d0 = onDuty xs fr := ⟨_, rfl⟩
  rw [← hd0]
  have HD0 := Lib.hid hd0
  clear hd0
  go_loopw [7, 8] (fun o i wr => ∃ (k : Nat) (z : Int), k ≤ n ∧ i = .int .i64 k ∧ o = .int .i64 z ∧ Hid (z = (xs.take k).foldl (endStep xs fr to) d0) ∧ Ext w wr) (fun _ i _ => n - (intOf i).toNat)
  case atStart => exact ⟨0, d0, Nat.zero_le _, rfl, rfl, rfl, hb2⟩
  case round =>
    obtain ⟨k, z, hk, rfl, rfl, hz, hb⟩ := hrel
    by_cases hlt : k < n
    · obtain ⟨b, off, x, rfl, hbs, hxk, h0, h1, h2⟩ := GShift.at_ (hx.keep hb) hlt
      have hxr := Lib.hid (hx.keep hb)
      have HX := Lib.hid hxk
      have HB := Lib.hid hb
      clear hxk hb hb2
      cases hin : inB x.t fr (to - 1)
      · go_wp2_with (go_at_call 83; refine (spec_l01In _ _ _ _).mono ?_; rintro e w1 ⟨he, rfl⟩; rw [hin] at he; subst he)
        go_roundw
        case rel => exact ⟨k + 1, _, by omega, by go_num, rfl, by unfold Hid; rw [fold_step _ _ HX.out, ← hz.out]; simp [endStep, hin], HB.out⟩
        case measure => simp [intOf]; omega
      · go_wp2_with (first | (go_at_call 83; refine (spec_l01In _ _ _ _).mono ?_; rintro e w1 ⟨he, rfl⟩; rw [hin] at he; subst he) | (go_at_call 84; refine (spec_OnDuty _ _ _ xs x.t _ hxr.out).mono ?_; rintro e w1 ⟨rfl, hb1⟩))
        go_roundw
        case rel => exact ⟨k + 1, _, by omega, by go_num, rfl, by unfold Hid; rw [fold_step _ _ HX.out, ← hz.out]; simp [endStep, hin], HB.out.trans hb1⟩
        case measure => simp [intOf]; omega
    · obtain rfl : k = n := by omega
      go_wp2_with fail
      go_ret
      exact ⟨ret_int (by rw [hz.out, leastS, if_pos HOK.out, HD0.out, List.take_of_length_le (by rw [hl.out]; omega)]), hb⟩
theorem imin_eq (a b : Int) : imin a b = min a b := by unfold imin; omega
theorem minI_spec {α : Type} (g : α → Int) : ∀ (l : List α) (z : Int), l.foldl (fun z j => imin z (g j)) z ≤ z ∧ (∀ j ∈ l, l.foldl (fun z j => imin z (g j)) z ≤ g j) ∧ (l.foldl (fun z j => imin z (g j)) z = z ∨ ∃ j ∈ l, l.foldl (fun z j => imin z (g j)) z = g j)
  | [], z => by simp
  | a :: l, z => by
    obtain ⟨h1, h2, h3⟩ := minI_spec g l (imin z (g a))
    simp only [List.foldl_cons]
    have ha : imin z (g a) ≤ z ∧ imin z (g a) ≤ g a ∧ (imin z (g a) = z ∨ imin z (g a) = g a) := by rw [imin_eq]; omega
    refine ⟨by omega, ?_, ?_⟩
    · intro j hj
      rcases List.mem_cons.1 hj with rfl | hj
      · omega
      · exact h2 j hj
    · rcases h3 with h3 | ⟨j, hj, h3⟩
      · rcases ha.2.2 with h | h
        · exact .inl (h3.trans h)
        · exact .inr ⟨a, by simp, h3.trans h⟩
      · exact .inr ⟨j, by simp [hj], h3⟩
theorem minS_spec (ys : List GShift) (fr to : Int) : ∀ (l : List GShift) (z : Int), l.foldl (endStep ys fr to) z ≤ z ∧ (∀ x ∈ l, inB x.t fr (to - 1) = true → l.foldl (endStep ys fr to) z ≤ onDuty ys x.t) ∧ (l.foldl (endStep ys fr to) z = z ∨ ∃ x ∈ l, inB x.t fr (to - 1) = true ∧ l.foldl (endStep ys fr to) z = onDuty ys x.t)
  | [], z => by simp
  | a :: l, z => by
    obtain ⟨h1, h2, h3⟩ := minS_spec ys fr to l (endStep ys fr to z a)
    simp only [List.foldl_cons]
    have ha : endStep ys fr to z a ≤ z ∧ (inB a.t fr (to - 1) = true → endStep ys fr to z a ≤ onDuty ys a.t) ∧ (endStep ys fr to z a = z ∨ (inB a.t fr (to - 1) = true ∧ endStep ys fr to z a = onDuty ys a.t)) := by
      unfold endStep
      by_cases hi : inB a.t fr (to - 1) = true
      · simp only [hi, if_true]
        have e := imin_eq z (onDuty ys a.t)
        refine ⟨by omega, fun _ => by omega, ?_⟩
        rcases Int.le_total z (onDuty ys a.t) with h | h
        · exact .inl (by omega)
        · exact .inr ⟨trivial, by omega⟩
      · simp [hi]
    refine ⟨by omega, ?_, ?_⟩
    · intro x hx hin
      rcases List.mem_cons.1 hx with rfl | hx
      · have := ha.2.1 hin; omega
      · exact h2 x hx hin
    · rcases h3 with h3 | ⟨j, hj, h3⟩
      · rcases ha.2.2 with h | h
        · exact .inl (h3.trans h)
        · exact .inr ⟨a, by simp, h.1, h3.trans h.2⟩
      · exact .inr ⟨j, by simp [hj], h3⟩
def dutyB (m : Int) (s : GShift) : Bool := shOk s && decide (s.f ≤ m) && decide (m < s.t)
theorem onDuty_count (xs : List GShift) (m : Int) : onDuty xs m = (xs.countP (dutyB m) : Nat) := by
  have h : ∀ (xs : List GShift) (z : Int), xs.foldl (dutyStep m) z = z + (xs.countP (dutyB m) : Nat) := by
    intro xs
    induction xs with
    | nil => intro z; simp
    | cons x xs ih =>
      intro z
      rw [List.foldl_cons, ih, List.countP_cons]
      by_cases hx : dutyB m x = true
      · have : dutyStep m z x = z + 1 := by unfold dutyStep; rw [show (shOk x && decide (x.f ≤ m) && decide (m < x.t)) = true from hx]; rfl
        rw [this, if_pos hx]; omega
      · have : dutyStep m z x = z := by unfold dutyStep; rw [show (shOk x && decide (x.f ≤ m) && decide (m < x.t)) = false from by simpa [dutyB] using hx]; rfl
        rw [this, if_neg hx]; omega
  have := h xs 0
  rw [onDuty, this]; omega
theorem duty_next (xs : List GShift) (m : Int) (h : ∀ x ∈ xs, x.t ≠ m + 1) : onDuty xs m ≤ onDuty xs (m + 1) := by
  rw [onDuty_count, onDuty_count]
  have := List.countP_mono_left (p := dutyB m) (q := dutyB (m + 1)) (l := xs) (by
    intro x hx hp
    have h1 := h x hx
    simp only [dutyB, Bool.and_eq_true, decide_eq_true_eq] at hp ⊢
    exact ⟨⟨hp.1.1, by omega⟩, by omega⟩)
  omega
theorem duty_back (xs : List GShift) (fr to : Int) : ∀ (k : Nat), fr + k < to → ∃ q, q ≤ fr + k ∧ onDuty xs q ≤ onDuty xs (fr + k) ∧ (q = fr ∨ ∃ x ∈ xs, x.t = q ∧ inB x.t fr (to - 1) = true)
  | 0, _ => ⟨fr, by omega, by simp, .inl rfl⟩
  | k + 1, hk => by
    by_cases h : ∃ x ∈ xs, x.t = fr + k + 1
    · obtain ⟨x, hx, hxt⟩ := h
      refine ⟨fr + k + 1, by push_cast; omega, ?_, .inr ⟨x, hx, hxt, ?_⟩⟩
      · rw [show fr + ((k + 1 : Nat) : Int) = fr + k + 1 by push_cast; omega]; exact Int.le_refl _
      · simp [inB]; omega
    · obtain ⟨q, h1, h2, h3⟩ := duty_back xs fr to k (by omega)
      have h4 := duty_next xs (fr + k) (fun x hx e => h ⟨x, hx, e⟩)
      rw [show fr + ((k + 1 : Nat) : Int) = fr + k + 1 by push_cast; omega]
      exact ⟨q, by omega, by omega, h3⟩
theorem least_eq (xs : List GShift) (fr to : Int) : leastI xs fr to = leastS xs fr to := by
  unfold leastI leastS
  by_cases hok : lodOk xs fr to = true
  · rw [if_pos hok, if_pos hok]
    have hft : fr < to := by simp only [lodOk, Bool.and_eq_true, decide_eq_true_eq] at hok; exact hok.2
    obtain ⟨a1, a2, a3⟩ := minI_spec (fun (j : Nat) => onDuty xs (fr + j)) (List.range (to - fr).toNat) (xs.length : Int)
    obtain ⟨b1, b2, b3⟩ := minS_spec xs fr to xs (onDuty xs fr)
    generalize (List.range (to - fr).toNat).foldl (fun z (j : Nat) => imin z (onDuty xs (fr + j))) (xs.length : Int) = a at a1 a2 a3 ⊢
    generalize xs.foldl (endStep xs fr to) (onDuty xs fr) = b at b1 b2 b3 ⊢
    have hfr : a ≤ onDuty xs fr := by
      have := a2 0 (List.mem_range.2 (by omega))
      simpa using this
    have hab : a ≤ b := by
      rcases b3 with h | ⟨x, hx, hin, h⟩
      · omega
      · simp only [inB, Bool.and_eq_true, decide_eq_true_eq] at hin
        have := a2 (x.t - fr).toNat (List.mem_range.2 (by omega))
        rw [show fr + ((x.t - fr).toNat : Int) = x.t by omega] at this
        omega
    have hba : b ≤ a := by
      have key : ∀ k : Nat, fr + k < to → b ≤ onDuty xs (fr + k) := by
        intro k hk
        obtain ⟨q, _, h2, h3⟩ := duty_back xs fr to k hk
        rcases h3 with rfl | ⟨x, hx, rfl, hin⟩
        · omega
        · have := b2 x hx hin; omega
      rcases a3 with h | ⟨j, hj, h⟩
      · have h1 := key 0 (by omega)
        have h2 : onDuty xs (fr + ((0 : Nat) : Int)) ≤ xs.length := by rw [onDuty_count]; have := List.countP_le_length (p := dutyB (fr + ((0 : Nat) : Int))) (l := xs); omega
        omega
      · have := key j (by have := List.mem_range.1 hj; omega)
        omega
    omega
  · rw [if_neg hok, if_neg hok]
theorem impl_LeastOnDuty_s (A : Option Addr) (n c : Nat) (xs : List GShift) (fr to : Int) (w : World) (hx : Rd w 3 A n (xs.flatMap GShift.enc)) :
    Calls Try.prog 28 #[.slice A n c, .int .i64 fr, .int .i64 to] w fun e w' => e = .returned (.int .i64 (leastS xs fr to)) ∧ Ext w w' := by
  rw [← least_eq]; exact impl_LeastOnDuty A n c xs fr to w hx
end Go.Proofs.Ytlgmiifpdjalpaa
