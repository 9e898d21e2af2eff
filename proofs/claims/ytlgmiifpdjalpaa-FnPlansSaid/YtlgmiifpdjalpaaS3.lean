/- Contracts of functions that loop over rows and answer a number or a bool; no condition but what stands at each theorem. -/
import Derived.Test.YtlgmiifpdjalpaaS1
import Derived.Test.YtlgmiifpdjalpaaK3
namespace Go.Proofs.Ytlgmiifpdjalpaa
set_option linter.unusedSimpArgs false
set_option linter.unusedVariables false
open Go.RowKit
def lastStep (obj : Int) (out : Int) (c : GCheck) : Int := if (c.o == obj) && c.th && decide (out < c.m) then c.m else out
def lastSeen (xs : List GCheck) (obj : Int) : Int := xs.foldl (lastStep obj) (-1)
set_option maxRecDepth 100000 in
set_option maxHeartbeats 1000000 in
theorem spec_LastSeen (A : Option Addr) (n c : Nat) (xs : List GCheck) (obj : Int) (w : World) (hx : Rd w 3 A n (xs.flatMap GCheck.enc)) :
    Calls Try.prog 116 #[.slice A n c, .int .i64 obj] w fun e w' => e = .returned (.int .i64 (lastSeen xs obj)) ∧ Ext w w' := by
  have hn := hx.2.1
  have hl := Lib.hid (hx.len GCheck.len (by omega))
  go_enter Try.func116, Try.ntmps116
  go_wp2_with fail
  go_loopw [5, 6] (fun o i wr => ∃ (k : Nat) (z : Int), k ≤ n ∧ i = .int .i64 k ∧ o = .int .i64 z ∧ Hid (z = (xs.take k).foldl (lastStep obj) (-1)) ∧  Ext w wr) (fun _ i _ => n - (intOf i).toNat)
  case atStart => exact ⟨0, -1, Nat.zero_le _, rfl, rfl, rfl,  Ext.refl _⟩
  case round =>
    obtain ⟨k, z, hk, rfl, rfl, hz,  hb⟩ := hrel
    by_cases hlt : k < n
    · obtain ⟨b, off, x, rfl, hbs, hxk, h0, h1, h2⟩ := GCheck.at_ (hx.keep hb) hlt
      have HX := Lib.hid hxk
      have HB := Lib.hid hb
      clear hxk hb
      go_wp2_with fail
      all_goals
        go_roundw
        case rel => exact ⟨k + 1, _, by omega, by go_num, rfl, by unfold Hid; rw [fold_step _ _ HX.out, ← hz.out]; (first | (simp_all [lastStep]; done) | (simp_all [lastStep]; omega) | (simp_all [lastStep] <;> intros <;> omega)),  by have hb := HB.out; (repeat (first | exact Ext.refl _ | assumption | refine Ext.alloc ?_ _ | refine Ext.drew ?_ | refine Ext.drewN ?_ _ | refine Ext.setCell ?_ (by first | (simp; done) | (simp; omega)) _ | refine Ext.trans ?_ (by assumption)))⟩
        case measure => simp [intOf]; omega
    · obtain rfl : k = n := by omega
      go_wp2_with fail
      go_ret
      exact ⟨ret_int (by rw [hz.out, List.take_of_length_le (by rw [hl.out]; omega)]; rfl), hb⟩
set_option maxRecDepth 100000 in
set_option maxHeartbeats 1000000 in
theorem impl_LastSeen (A : Option Addr) (n c : Nat) (xs : List GCheck) (obj : Int) (w : World) (hx : Rd w 3 A n (xs.flatMap GCheck.enc)) :
    Calls Try.prog 69 #[.slice A n c, .int .i64 obj] w fun e w' => e = .returned (.int .i64 (lastSeen xs obj)) ∧ Ext w w' := by
  have hn := hx.2.1
  have hl := Lib.hid (hx.len GCheck.len (by omega))
  have hmax := @run_imax Try.prog
  go_enter Try.func69, Try.ntmps69
  go_wp2_with fail
  go_loopw [5, 10] (fun o i wr => ∃ (k : Nat) (z : Int), k ≤ n ∧ i = .int .i64 k ∧ o = .int .i64 z ∧ Hid (z = (xs.take k).foldl (lastStep obj) (-1)) ∧  Ext w wr) (fun _ i _ => n - (intOf i).toNat)
  case atStart => exact ⟨0, -1, Nat.zero_le _, rfl, rfl, rfl,  Ext.refl _⟩
  case round =>
    obtain ⟨k, z, hk, rfl, rfl, hz,  hb⟩ := hrel
    by_cases hlt : k < n
    · obtain ⟨b, off, x, rfl, hbs, hxk, h0, h1, h2⟩ := GCheck.at_ (hx.keep hb) hlt
      have HX := Lib.hid hxk
      have HB := Lib.hid hb
      clear hxk hb
      go_wp2_with fail
      all_goals
        go_roundw
        case rel => exact ⟨k + 1, _, by omega, by go_num, rfl, by unfold Hid; rw [fold_step _ _ HX.out, ← hz.out]; (first | (simp_all [lastStep, imax]; done) | (simp_all [lastStep, imax]; omega) | (simp_all [lastStep, imax] <;> intros <;> omega)),  by have hb := HB.out; (repeat (first | exact Ext.refl _ | assumption | refine Ext.alloc ?_ _ | refine Ext.drew ?_ | refine Ext.drewN ?_ _ | refine Ext.setCell ?_ (by first | (simp; done) | (simp; omega)) _ | refine Ext.trans ?_ (by assumption)))⟩
        case measure => simp [intOf]; omega
    · obtain rfl : k = n := by omega
      go_wp2_with fail
      go_ret
      exact ⟨ret_int (by rw [hz.out, List.take_of_length_le (by rw [hl.out]; omega)]; rfl), hb⟩
def missStep (obj last : Int) (out : Int) (c : GCheck) : Int := if (c.o == obj) && (!c.th) && decide (last < c.m) && (decide (out < 0) || decide (c.m < out)) then c.m else out
def firstMissed (xs : List GCheck) (obj : Int) : Int := xs.foldl (missStep obj (lastSeen xs obj)) (-1)
set_option maxRecDepth 100000 in
set_option maxHeartbeats 1000000 in
theorem spec_FirstMissed (A : Option Addr) (n c : Nat) (xs : List GCheck) (obj : Int) (w : World) (hx : Rd w 3 A n (xs.flatMap GCheck.enc)) :
    Calls Try.prog 117 #[.slice A n c, .int .i64 obj] w fun e w' => e = .returned (.int .i64 (firstMissed xs obj)) ∧ Ext w w' := by
  have hn := hx.2.1
  have hl := Lib.hid (hx.len GCheck.len (by omega))
  go_enter Try.func117, Try.ntmps117
  go_wp2_with (go_at_call 116; refine (spec_LastSeen _ _ _ xs _ _ hx).mono ?_; rintro e w1 ⟨rfl, hb0⟩)
  obtain ⟨last, hlast⟩ : ∃ last, last = lastSeen xs obj := ⟨_, rfl⟩
  rw [← hlast]
  have HL := Lib.hid hlast
  clear hlast
  go_loopw [6, 7] (fun o i wr => ∃ (k : Nat) (z : Int), k ≤ n ∧ i = .int .i64 k ∧ o = .int .i64 z ∧ Hid (z = (xs.take k).foldl (missStep obj last) (-1)) ∧  Ext w wr) (fun _ i _ => n - (intOf i).toNat)
  case atStart => exact ⟨0, -1, Nat.zero_le _, rfl, rfl, rfl,  hb0⟩
  case round =>
    obtain ⟨k, z, hk, rfl, rfl, hz,  hb⟩ := hrel
    by_cases hlt : k < n
    · obtain ⟨b, off, x, rfl, hbs, hxk, h0, h1, h2⟩ := GCheck.at_ (hx.keep hb) hlt
      have HX := Lib.hid hxk
      have HB := Lib.hid hb
      clear hxk hb
      go_wp2_with fail
      all_goals
        go_roundw
        case rel => exact ⟨k + 1, _, by omega, by go_num, rfl, by unfold Hid; rw [fold_step _ _ HX.out, ← hz.out]; (first | (simp_all [missStep]; done) | (simp_all [missStep]; omega) | (simp_all [missStep] <;> intros <;> omega)),  by have hb := HB.out; (repeat (first | exact Ext.refl _ | assumption | refine Ext.alloc ?_ _ | refine Ext.drew ?_ | refine Ext.drewN ?_ _ | refine Ext.setCell ?_ (by first | (simp; done) | (simp; omega)) _ | refine Ext.trans ?_ (by assumption)))⟩
        case measure => simp [intOf]; omega
    · obtain rfl : k = n := by omega
      go_wp2_with fail
      go_ret
      exact ⟨ret_int (by rw [hz.out, List.take_of_length_le (by rw [hl.out]; omega), HL.out]; rfl), hb⟩
set_option maxRecDepth 100000 in
set_option maxHeartbeats 1000000 in
theorem spec_IsMissing (A : Option Addr) (n c : Nat) (xs : List GCheck) (obj : Int) (w : World) (hx : Rd w 3 A n (xs.flatMap GCheck.enc)) :
    Calls Try.prog 91 #[.slice A n c, .int .i64 obj] w fun e w' => e = .returned (.bool (firstMissed xs obj != -1)) ∧ Ext w w' := by
  go_enter Try.func91, Try.ntmps91
  go_wp2_with (go_at_call 117; refine (spec_FirstMissed _ _ _ xs _ _ hx).mono ?_; rintro e w1 ⟨rfl, hb0⟩)
  all_goals go_ret
  all_goals exact ⟨ret_bool rfl, hb0⟩
set_option maxRecDepth 100000 in
set_option maxHeartbeats 1000000 in
theorem impl_FirstMissed (A : Option Addr) (n c : Nat) (xs : List GCheck) (obj : Int) (w : World) (hx : Rd w 3 A n (xs.flatMap GCheck.enc)) :
    Calls Try.prog 70 #[.slice A n c, .int .i64 obj] w fun e w' => e = .returned (.int .i64 (firstMissed xs obj)) ∧ Ext w w' := by
  have hn := hx.2.1
  have hl := Lib.hid (hx.len GCheck.len (by omega))
  go_enter Try.func70, Try.ntmps70
  go_wp2_with (go_at_call 69; refine (impl_LastSeen _ _ _ xs _ _ hx).mono ?_; rintro e w1 ⟨rfl, hb0⟩)
  obtain ⟨last, hlast⟩ : ∃ last, last = lastSeen xs obj := ⟨_, rfl⟩
  rw [← hlast]
  have HL := Lib.hid hlast
  clear hlast
  go_loopw [6, 14] (fun o i wr => ∃ (k : Nat) (z : Int), k ≤ n ∧ i = .int .i64 k ∧ o = .int .i64 z ∧ Hid (z = (xs.take k).foldl (missStep obj last) (-1)) ∧  Ext w wr) (fun _ i _ => n - (intOf i).toNat)
  case atStart => exact ⟨0, -1, Nat.zero_le _, rfl, rfl, rfl,  hb0⟩
  case round =>
    obtain ⟨k, z, hk, rfl, rfl, hz,  hb⟩ := hrel
    by_cases hlt : k < n
    · obtain ⟨b, off, x, rfl, hbs, hxk, h0, h1, h2⟩ := GCheck.at_ (hx.keep hb) hlt
      have HX := Lib.hid hxk
      have HB := Lib.hid hb
      clear hxk hb
      go_wp2_with fail
      all_goals
        go_roundw
        case rel => exact ⟨k + 1, _, by omega, by go_num, rfl, by unfold Hid; rw [fold_step _ _ HX.out, ← hz.out]; (first | (simp_all [missStep]; done) | (simp_all [missStep]; omega) | (simp_all [missStep] <;> intros <;> omega)),  by have hb := HB.out; (repeat (first | exact Ext.refl _ | assumption | refine Ext.alloc ?_ _ | refine Ext.drew ?_ | refine Ext.drewN ?_ _ | refine Ext.setCell ?_ (by first | (simp; done) | (simp; omega)) _ | refine Ext.trans ?_ (by assumption)))⟩
        case measure => simp [intOf]; omega
    · obtain rfl : k = n := by omega
      go_wp2_with fail
      go_ret
      exact ⟨ret_int (by rw [hz.out, List.take_of_length_le (by rw [hl.out]; omega), HL.out]; rfl), hb⟩
set_option maxRecDepth 100000 in
set_option maxHeartbeats 1000000 in
theorem impl_IsMissing (A : Option Addr) (n c : Nat) (xs : List GCheck) (obj : Int) (w : World) (hx : Rd w 3 A n (xs.flatMap GCheck.enc)) :
    Calls Try.prog 72 #[.slice A n c, .int .i64 obj] w fun e w' => e = .returned (.bool (firstMissed xs obj != -1)) ∧ Ext w w' := by
  go_enter Try.func72, Try.ntmps72
  go_wp2_with (go_at_call 70; refine (impl_FirstMissed _ _ _ xs _ _ hx).mono ?_; rintro e w1 ⟨rfl, hb0⟩)
  all_goals go_ret
  all_goals exact ⟨ret_bool rfl, hb0⟩
def dutyStep (m : Int) (out : Int) (s : GShift) : Int := if shOk s && decide (s.f ≤ m) && decide (m < s.t) then out + 1 else out
def onDuty (xs : List GShift) (m : Int) : Int := xs.foldl (dutyStep m) 0
set_option maxRecDepth 100000 in
set_option maxHeartbeats 1000000 in
theorem spec_OnDuty (A : Option Addr) (n c : Nat) (xs : List GShift) (m : Int) (w : World) (hx : Rd w 3 A n (xs.flatMap GShift.enc)) :
    Calls Try.prog 84 #[.slice A n c, .int .i64 m] w fun e w' => e = .returned (.int .i64 (onDuty xs m)) ∧ Ext w w' := by
  have hn := hx.2.1
  have hl := Lib.hid (hx.len GShift.len (by omega))
  go_enter Try.func84, Try.ntmps84
  go_wp2_with fail
  go_loopw [5, 6] (fun o i wr => ∃ (k : Nat) (z : Int), k ≤ n ∧ i = .int .i64 k ∧ o = .int .i64 z ∧ Hid (z = (xs.take k).foldl (dutyStep m) (0)) ∧ 0 ≤ z ∧ z ≤ k ∧ Ext w wr) (fun _ i _ => n - (intOf i).toNat)
  case atStart => exact ⟨0, 0, Nat.zero_le _, rfl, rfl, rfl, by omega, by omega, Ext.refl _⟩
  case round =>
    obtain ⟨k, z, hk, rfl, rfl, hz, hz0, hz1, hb⟩ := hrel
    by_cases hlt : k < n
    · obtain ⟨b, off, x, rfl, hbs, hxk, h0, h1, h2⟩ := GShift.at_ (hx.keep hb) hlt
      have HX := Lib.hid hxk
      have HB := Lib.hid hb
      clear hxk hb
      go_wp2_with (first | (go_at_call 122; refine (spec_ShiftOk x _).mono ?_; rintro e w1 ⟨rfl, hb⟩; obtain ⟨hc, hf, hn, hn'⟩ := hb.look))
      all_goals
        go_roundw
        case rel => exact ⟨k + 1, _, by omega, by go_num, rfl, by unfold Hid; rw [fold_step _ _ HX.out, ← hz.out]; (first | (simp_all [dutyStep]; done) | (simp_all [dutyStep]; omega) | (simp_all [dutyStep] <;> intros <;> omega)), by omega, by omega, by have hb := HB.out; (repeat (first | exact Ext.refl _ | assumption | refine Ext.alloc ?_ _ | refine Ext.drew ?_ | refine Ext.drewN ?_ _ | refine Ext.setCell ?_ (by first | (simp; done) | (simp; omega)) _ | refine Ext.trans ?_ (by assumption)))⟩
        case measure => simp [intOf]; omega
    · obtain rfl : k = n := by omega
      go_wp2_with fail
      go_ret
      exact ⟨ret_int (by rw [hz.out, List.take_of_length_le (by rw [hl.out]; omega)]; rfl), hb⟩
set_option maxRecDepth 100000 in
set_option maxHeartbeats 1000000 in
theorem impl_OnDuty (A : Option Addr) (n c : Nat) (xs : List GShift) (m : Int) (w : World) (hx : Rd w 3 A n (xs.flatMap GShift.enc)) :
    Calls Try.prog 62 #[.slice A n c, .int .i64 m] w fun e w' => e = .returned (.int .i64 (onDuty xs m)) ∧ Ext w w' := by
  have hn := hx.2.1
  have hl := Lib.hid (hx.len GShift.len (by omega))
  go_enter Try.func62, Try.ntmps62
  go_wp2_with fail
  go_loopw [5, 10] (fun o i wr => ∃ (k : Nat) (z : Int), k ≤ n ∧ i = .int .i64 k ∧ o = .int .i64 z ∧ Hid (z = (xs.take k).foldl (dutyStep m) (0)) ∧ 0 ≤ z ∧ z ≤ k ∧ Ext w wr) (fun _ i _ => n - (intOf i).toNat)
  case atStart => exact ⟨0, 0, Nat.zero_le _, rfl, rfl, rfl, by omega, by omega, Ext.refl _⟩
  case round =>
    obtain ⟨k, z, hk, rfl, rfl, hz, hz0, hz1, hb⟩ := hrel
    by_cases hlt : k < n
    · obtain ⟨b, off, x, rfl, hbs, hxk, h0, h1, h2⟩ := GShift.at_ (hx.keep hb) hlt
      have HX := Lib.hid hxk
      have HB := Lib.hid hb
      clear hxk hb
      go_wp2_with (first | (go_at_call 110; refine (impl_ShiftOk x _).mono ?_; rintro e w1 ⟨rfl, hb⟩; obtain ⟨hc, hf, hn, hn'⟩ := hb.look))
      all_goals
        go_roundw
        case rel => exact ⟨k + 1, _, by omega, by go_num, rfl, by unfold Hid; rw [fold_step _ _ HX.out, ← hz.out]; (first | (simp_all [dutyStep]; done) | (simp_all [dutyStep]; omega) | (simp_all [dutyStep] <;> intros <;> omega)), by omega, by omega, by have hb := HB.out; (repeat (first | exact Ext.refl _ | assumption | refine Ext.alloc ?_ _ | refine Ext.drew ?_ | refine Ext.drewN ?_ _ | refine Ext.setCell ?_ (by first | (simp; done) | (simp; omega)) _ | refine Ext.trans ?_ (by assumption)))⟩
        case measure => simp [intOf]; omega
    · obtain rfl : k = n := by omega
      go_wp2_with fail
      go_ret
      exact ⟨ret_int (by rw [hz.out, List.take_of_length_le (by rw [hl.out]; omega)]; rfl), hb⟩
set_option maxRecDepth 100000 in
set_option maxHeartbeats 1000000 in
theorem spec_l32Valid (A : Option Addr) (n c : Nat) (xs : List GShift) (w : World) (hx : Rd w 3 A n (xs.flatMap GShift.enc)) :
    Calls Try.prog 82 #[.slice A n c] w fun e w' => e = .returned (.bool (xs.all shOk && decide (xs.length ≤ 20))) ∧ Ext w w' := by
  have hn := hx.2.1
  have hl := Lib.hid (hx.len GShift.len (by omega))
  go_enter Try.func82, Try.ntmps82
  go_wp2_with fail
  go_loopw [3] (fun i wr => ∃ (k : Nat), k ≤ n ∧ i = .int .i64 k ∧ Hid ((xs.take k).all shOk = true) ∧ Ext w wr) (fun i _ => n - (intOf i).toNat)
  case atStart => exact ⟨0, Nat.zero_le _, rfl, rfl, Ext.refl _⟩
  case round =>
    obtain ⟨k, hk, rfl, hz, hb⟩ := hrel
    by_cases hlt : k < n
    · obtain ⟨b, off, x, rfl, hbs, hxk, h0, h1, h2⟩ := GShift.at_ (hx.keep hb) hlt
      have HX := Lib.hid hxk
      have HB := Lib.hid hb
      clear hxk hb
      cases hok : shOk x
      · go_wp2_with (first | (go_at_call 122; refine (spec_ShiftOk x _).mono ?_; rintro e w1 ⟨rfl, hb⟩))
        go_ret
        refine ⟨ret_bool ?_, by have hb0 := HB.out; (repeat (first | exact Ext.refl _ | assumption | refine Ext.alloc ?_ _ | refine Ext.drew ?_ | refine Ext.drewN ?_ _ | refine Ext.setCell ?_ (by first | (simp; done) | (simp; omega)) _ | refine Ext.trans ?_ (by assumption)))⟩
        have : xs.all shOk = false := List.all_eq_false.2 ⟨x, List.mem_of_getElem? HX.out, by rw [hok]; decide⟩
        rw [this]; rfl
      · go_wp2_with (first | (go_at_call 122; refine (spec_ShiftOk x _).mono ?_; rintro e w1 ⟨rfl, hb⟩))
        go_roundw
        case rel => exact ⟨k + 1, by omega, by go_num, by unfold Hid; rw [take_snoc HX.out, List.all_append, hz.out]; simp [hok], by have hb0 := HB.out; (repeat (first | exact Ext.refl _ | assumption | refine Ext.alloc ?_ _ | refine Ext.drew ?_ | refine Ext.drewN ?_ _ | refine Ext.setCell ?_ (by first | (simp; done) | (simp; omega)) _ | refine Ext.trans ?_ (by assumption)))⟩
        case measure => simp [intOf]; omega
    · obtain rfl : k = n := by omega
      go_wp2_with fail
      go_ret
      refine ⟨ret_bool ?_, hb⟩
      have h1 := hz.out
      rw [List.take_of_length_le (by rw [hl.out]; omega)] at h1
      rw [h1, hl.out]; simp; try omega
set_option maxRecDepth 100000 in
set_option maxHeartbeats 1000000 in
theorem impl_allShifts (A : Option Addr) (n c : Nat) (xs : List GShift) (w : World) (hx : Rd w 3 A n (xs.flatMap GShift.enc)) :
    Calls Try.prog 86 #[.slice A n c] w fun e w' => e = .returned (.bool (xs.all shOk && decide (xs.length ≤ 20))) ∧ Ext w w' := by
  have hn := hx.2.1
  have hl := Lib.hid (hx.len GShift.len (by omega))
  go_enter Try.func86, Try.ntmps86
  go_wp2_with fail
  go_loopw [7] (fun i wr => ∃ (k : Nat), k ≤ n ∧ i = .int .i64 k ∧ Hid ((xs.take k).all shOk = true) ∧ Ext w wr) (fun i _ => n - (intOf i).toNat)
  case atStart => exact ⟨0, Nat.zero_le _, rfl, rfl, Ext.refl _⟩
  case round =>
    obtain ⟨k, hk, rfl, hz, hb⟩ := hrel
    by_cases hlt : k < n
    · obtain ⟨b, off, x, rfl, hbs, hxk, h0, h1, h2⟩ := GShift.at_ (hx.keep hb) hlt
      have HX := Lib.hid hxk
      have HB := Lib.hid hb
      clear hxk hb
      cases hok : shOk x
      · go_wp2_with (first | (go_at_call 110; refine (impl_ShiftOk x _).mono ?_; rintro e w1 ⟨rfl, hb⟩))
        go_ret
        refine ⟨ret_bool ?_, by have hb0 := HB.out; (repeat (first | exact Ext.refl _ | assumption | refine Ext.alloc ?_ _ | refine Ext.drew ?_ | refine Ext.drewN ?_ _ | refine Ext.setCell ?_ (by first | (simp; done) | (simp; omega)) _ | refine Ext.trans ?_ (by assumption)))⟩
        have : xs.all shOk = false := List.all_eq_false.2 ⟨x, List.mem_of_getElem? HX.out, by rw [hok]; decide⟩
        rw [this]; rfl
      · go_wp2_with (first | (go_at_call 110; refine (impl_ShiftOk x _).mono ?_; rintro e w1 ⟨rfl, hb⟩))
        go_roundw
        case rel => exact ⟨k + 1, by omega, by go_num, by unfold Hid; rw [take_snoc HX.out, List.all_append, hz.out]; simp [hok], by have hb0 := HB.out; (repeat (first | exact Ext.refl _ | assumption | refine Ext.alloc ?_ _ | refine Ext.drew ?_ | refine Ext.drewN ?_ _ | refine Ext.setCell ?_ (by first | (simp; done) | (simp; omega)) _ | refine Ext.trans ?_ (by assumption)))⟩
        case measure => simp [intOf]; omega
    · obtain rfl : k = n := by omega
      go_wp2_with fail
      go_ret
      refine ⟨ret_bool ?_, hb⟩
      have h1 := hz.out
      rw [List.take_of_length_le (by rw [hl.out]; omega)] at h1
      rw [h1, hl.out]; simp; try omega
end Go.Proofs.Ytlgmiifpdjalpaa
