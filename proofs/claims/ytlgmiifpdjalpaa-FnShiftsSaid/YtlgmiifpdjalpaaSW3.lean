/- The drawing of shifts; no condition but what stands at each theorem. -/
import Derived.Test.YtlgmiifpdjalpaaSW1
import Derived.Test.YtlgmiifpdjalpaaS3
namespace Go.Proofs.Ytlgmiifpdjalpaa
set_option linter.unusedSimpArgs false
set_option linter.unusedVariables false
open Go.RowKit
theorem ei_Shift : EI Try.prog 42 85 3 := ei_of Try.underlying42 (by omega) (by kernel_rfl)
/-- Valid shifts that end by 100 have been drawn, a row of the call's own. -/
def DrawnShifts (p : Nat) (w : World) (e : Ending) (w' : World) : Prop := ∃ (v : Value) (xs : List GShift), e = .returned v ∧ w'.ownsRow w.heap.size 85 3 v xs.length (xs.flatMap GShift.enc) ∧ xs.length ≤ 10 ∧ (∀ x ∈ xs, shOk x = true ∧ x.t ≤ 100) ∧ Cur w' p ∧ w.grownBy w' (some p)
set_option maxRecDepth 100000 in
set_option maxHeartbeats 2000000 in
theorem spec_l32List (p : Nat) (w : World) (hc : Cur w p) :
    Calls Try.prog 104 #[.pointer (some ⟨p, 0, none⟩)] w (DrawnShifts p w) := by
  have hp := hc.lt
  obtain ⟨wa, hwa⟩ : ∃ wa, wa = w.alloc (.cells #[] 85) := ⟨_, rfl⟩
  have hca : Cur wa p := by rw [hwa]; exact cur_alloc hc _
  have hga : w.grownBy wa (some p) := by rw [hwa]; exact grown_alloc (grown_refl _ _) _
  have hoa : wa.ownsRow w.heap.size 85 3 (.slice (some ⟨w.heap.size, 0, none⟩) 0 0) 0 (([] : List GShift).flatMap GShift.enc) := by rw [hwa]; exact own_empty w w.heap.size 85 3 (Nat.le_refl _)
  have Hwa := Lib.hid hwa
  have HOa := Lib.hid hoa
  have HGa := Lib.hid hga
  clear hwa hoa hga hc
  go_enter Try.func104, Try.ntmps104
  go_wp2_with (go_at_call 105; refine (fun h : Hid _ => h.out) ?_)
  unfold Hid
  rw [← Hwa.out]
  refine (spec_l01Below p _ _ hca).mono ?_
  rintro e w2 ⟨r2, rfl, h20, h21, hc2, hg2⟩
  have HO2 := Lib.hid (own_grown HOa.out hp hg2)
  have HG2 := Lib.hid (grown_trans HGa.out hg2)
  have HC2 := Lib.hid hc2
  obtain ⟨n, rfl⟩ := Int.eq_ofNat_of_zero_le h20
  have hn10 : n ≤ 10 := by omega
  clear hg2 hc2 h20 h21 hca
  go_wp2_with fail
  go_loopw [3, 5] (fun ov iv wr => ∃ (k : Nat) (L : List GShift), k ≤ n ∧ iv = .int .i64 k ∧ Hid (L.length = k) ∧ Hid (∀ x ∈ L, shOk x = true ∧ x.t ≤ 100) ∧ Hid (wr.ownsRow w.heap.size 85 3 ov L.length (L.flatMap GShift.enc)) ∧ Hid (Cur wr p) ∧ Hid (w.grownBy wr (some p))) (fun _ iv _ => n - (intOf iv).toNat)
  case atStart => exact ⟨0, [], Nat.zero_le _, rfl, Lib.hid rfl, Lib.hid (fun x hx => by cases hx), HO2, HC2, HG2⟩
  case round =>
    obtain ⟨k, L, hk, rfl, hLk, hLm, hown, hcr, hgr⟩ := hrel
    by_cases hlt : k < n
    · go_wp2_with (go_at_call 105; refine (fun h : Hid _ => h.out) ?_)
      unfold Hid
      refine (spec_l01Below p _ _ hcr.out).mono ?_
      rintro e w3 ⟨r3, rfl, h30, h31, hc3, hg3⟩
      have HO3 := Lib.hid (own_grown hown.out hp hg3)
      have HG3 := Lib.hid (grown_trans hgr.out hg3)
      clear hg3
      go_wp2_with (go_at_call 105; refine (fun h : Hid _ => h.out) ?_)
      unfold Hid
      refine (spec_l01Below p _ _ hc3).mono ?_
      rintro e w4 ⟨r4, rfl, h40, h41, hc4, hg4⟩
      have HO4 := Lib.hid (own_grown HO3.out hp hg4)
      have HG4 := Lib.hid (grown_trans HG3.out hg4)
      clear hg4 hc3
      go_wp2_with (go_at_call 105; refine (fun h : Hid _ => h.out) ?_)
      unfold Hid
      refine (spec_l01Below p _ _ hc4).mono ?_
      rintro e w5 ⟨r5, rfl, h50, h51, hc5, hg5⟩
      have HO5 := Lib.hid (own_grown HO4.out hp hg5)
      have HG5 := Lib.hid (grown_trans HG4.out hg5)
      have HC5 := Lib.hid hc5
      have hsz : w.heap.size ≤ w5.heap.size := HG5.out.size
      have hLl : L.length ≤ 10 := by have := hLk.out; omega
      clear hg5 hc4 hc5
      go_wp2_with (at_builtin; refine (fun h : Hid _ => h.out) ?_)
      unfold Hid
      refine append1g ei_Shift rfl _ _ rfl w.heap.size w5 _ _ L.length _ (by rfl) HO5.out (GShift.enc ⟨r4, r3, r3 + 1 + r5⟩) (by rfl) rfl (by intro u hu; simp [GShift.enc] at hu; rcases hu with rfl | rfl | rfl <;> rfl) (by omega) hsz ?_
      intro v6 w6 row ho6 hg6 hr6
      have HO6 := Lib.hid ho6
      have HC6 := Lib.hid (cur_grown HC5.out hg6 (fun q hq => by have := hr6 q hq; omega))
      have HG6 := Lib.hid (grown_over HG5.out hg6 (fun q hq => hr6 q hq))
      clear ho6 hg6 hr6
      go_wp2_with fail
      go_roundw
      case rel => exact ⟨k + 1, L ++ [⟨r4, r3, r3 + 1 + r5⟩], by omega, by go_num, Lib.hid (by have := hLk.out; simp; omega), Lib.hid (fun x hx => by
        rcases List.mem_append.1 hx with hx | hx
        · exact hLm.out x hx
        · rw [List.mem_singleton] at hx
          subst hx
          refine ⟨?_, by simp only; omega⟩
          simp [shOk, inB]
          omega), by unfold Hid; rw [List.length_append, List.flatMap_append]; simpa using HO6.out, HC6, HG6⟩
      case measure => simp [intOf] <;> omega
    · go_wp2_with fail
      go_ret
      exact ⟨_, L, rfl, hown.out, by have := hLk.out; omega, hLm.out, hcr.out, hgr.out⟩
/-- Shifts and a rest have been drawn. -/
def DrawnFill (w : World) (e : Ending) (w' : World) : Prop := ∃ (A : Option Addr) (c : Nat) (xs : List GShift) (r : Int), e = .returned (.tuple #[.slice A xs.length c, .int .i64 r]) ∧ Ext w w' ∧ w'.ownsRow w.heap.size 85 3 (.slice A xs.length c) xs.length (xs.flatMap GShift.enc) ∧ xs.length ≤ 10 ∧ (∀ x ∈ xs, shOk x = true ∧ x.t ≤ 100) ∧ 0 ≤ r ∧ r ≤ 5
set_option maxRecDepth 100000 in
set_option maxHeartbeats 1000000 in
theorem spec_DrawShifts (A : Option Addr) (n c : Nat) (xs : List Int) (w : World) (hx : Rd w 1 A n (xs.flatMap benc)) (hxs : ∀ x ∈ xs, 0 ≤ x ∧ x ≤ 255) (hn1 : n ≤ 1048576) :
    Calls Try.prog 59 #[.slice A n c] w (DrawnFill w) := by
  have cN := Lib.hid (spec_l01New A n c xs w hx hxs hn1)
  clear hx hxs
  go_enter Try.func59, Try.ntmps59
  go_wp2_with (go_at_call 78; refine (fun h : Hid _ => h.out) ?_)
  unfold Hid
  refine cN.out.mono ?_
  rintro e w1 ⟨p, rfl, hp, hc1, he1⟩
  have z1 := he1.size
  have hp1 := hc1.lt
  go_wp2_with (go_at_call 104; refine (fun h : Hid _ => h.out) ?_)
  unfold Hid
  refine (spec_l32List p _ hc1).mono ?_
  rintro e w2 ⟨v, L, rfl, ho2, hl2, hm2, hc2, hg2⟩
  obtain ⟨Av, cv, rfl, hcv⟩ := own_form ho2
  have z2 := hg2.size
  go_wp2_with (go_at_call 105; refine (fun h : Hid _ => h.out) ?_)
  unfold Hid
  refine (spec_l01Below p _ _ hc2).mono ?_
  rintro e w3 ⟨r, rfl, hr0, hr1, hc3, hg3⟩
  have HE3 := Lib.hid ((he1.grown hg2 (fun q hq => by injection hq with hq; omega)).grown hg3 (fun q hq => by injection hq with hq; omega))
  have HO2 := Lib.hid (own_weak (own_grown ho2 hp1 hg3) z1)
  clear ho2 hg2 hg3 hc2 hc3 he1 hc1
  go_wp2_with fail
  refine bodyPost_ret (v := .tuple #[.slice Av L.length cv, .int .i64 r]) (by simp [results, Try.results59, go_sem, *]) rfl ?_
  exact ⟨_, _, L, r, rfl, HE3.out, HO2.out, hl2, hm2, hr0, by omega⟩
end Go.Proofs.Ytlgmiifpdjalpaa
