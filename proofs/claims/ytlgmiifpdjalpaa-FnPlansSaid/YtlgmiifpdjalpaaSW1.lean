/- The drawing of checks and stays; no condition but what stands at each theorem. -/
import Derived.Test.YtlgmiifpdjalpaaS7
import Derived.Test.YtlgmiifpdjalpaaK9
namespace Go.Proofs.Ytlgmiifpdjalpaa
set_option linter.unusedSimpArgs false
set_option linter.unusedVariables false
open Go.RowKit
theorem ei_Check : EI Try.prog 59 97 3 := ei_of Try.underlying59 (by omega) (by kernel_rfl)
theorem ei_Stay : EI Try.prog 89 95 4 := ei_of Try.underlying89 (by omega) (by kernel_rfl)
/-- Checks have been drawn, a row of the call's own. -/
def DrawnChecks (p : Nat) (w : World) (e : Ending) (w' : World) : Prop := ∃ (v : Value) (xs : List GCheck), e = .returned v ∧ w'.ownsRow w.heap.size 97 3 v xs.length (xs.flatMap GCheck.enc) ∧ xs.length ≤ 10 ∧ (∀ x ∈ xs, 0 ≤ x.m ∧ x.m ≤ 1000) ∧ Cur w' p ∧ w.grownBy w' (some p)
set_option maxRecDepth 100000 in
set_option maxHeartbeats 2000000 in
theorem spec_l36Checks (p : Nat) (w : World) (hc : Cur w p) :
    Calls Try.prog 112 #[.pointer (some ⟨p, 0, none⟩)] w (DrawnChecks p w) := by
  have hp := hc.lt
  obtain ⟨wa, hwa⟩ : ∃ wa, wa = w.alloc (.cells #[] 97) := ⟨_, rfl⟩
  have hca : Cur wa p := by rw [hwa]; exact cur_alloc hc _
  have hga : w.grownBy wa (some p) := by rw [hwa]; exact grown_alloc (grown_refl _ _) _
  have hoa : wa.ownsRow w.heap.size 97 3 (.slice (some ⟨w.heap.size, 0, none⟩) 0 0) 0 (([] : List GCheck).flatMap GCheck.enc) := by rw [hwa]; exact own_empty w w.heap.size 97 3 (Nat.le_refl _)
  have Hwa := Lib.hid hwa
  have HOa := Lib.hid hoa
  have HGa := Lib.hid hga
  clear hwa hoa hga hc
  go_enter Try.func112, Try.ntmps112
  go_wp2_with (go_at_call 105; refine (fun h : Hid _ => h.out) ?_)
  unfold Hid
  rw [← Hwa.out]
  refine (spec_l01Below p _ _ hca).mono ?_
  rintro e w1 ⟨r1, rfl, h10, h11, hc1, hg1⟩
  have HO1 := Lib.hid (own_grown HOa.out hp hg1)
  have HG1 := Lib.hid (grown_trans HGa.out hg1)
  clear hg1 hca
  go_wp2_with (go_at_call 105; refine (fun h : Hid _ => h.out) ?_)
  unfold Hid
  refine (spec_l01Below p _ _ hc1).mono ?_
  rintro e w2 ⟨r2, rfl, h20, h21, hc2, hg2⟩
  have HO2 := Lib.hid (own_grown HO1.out hp hg2)
  have HG2 := Lib.hid (grown_trans HG1.out hg2)
  have HC2 := Lib.hid hc2
  obtain ⟨n, rfl⟩ := Int.eq_ofNat_of_zero_le h20
  have hn10 : n ≤ 10 := by omega
  clear hg2 hc1 hc2 HO1 HG1 h20 h21
  go_wp2_with fail
  go_loopw [3, 4, 6] (fun ov tv iv wr => ∃ (k : Nat) (T : Int) (L : List GCheck), k ≤ n ∧ iv = .int .i64 k ∧ tv = .int .i64 T ∧ 0 ≤ T ∧ T ≤ 3 + 6 * k ∧ Hid (L.length = k) ∧ Hid (∀ x ∈ L, 0 ≤ x.m ∧ x.m ≤ 1000) ∧ Hid (wr.ownsRow w.heap.size 97 3 ov L.length (L.flatMap GCheck.enc)) ∧ Hid (Cur wr p) ∧ Hid (w.grownBy wr (some p))) (fun _ _ iv _ => n - (intOf iv).toNat)
  case atStart => exact ⟨0, r1, [], Nat.zero_le _, rfl, rfl, h10, by omega, Lib.hid rfl, Lib.hid (fun x hx => by cases hx), HO2, HC2, HG2⟩
  case round =>
    obtain ⟨k, T, L, hk, rfl, rfl, hT0, hT1, hLk, hLm, hown, hcr, hgr⟩ := hrel
    by_cases hlt : k < n
    · go_wp2_with (go_at_call 105; refine (fun h : Hid _ => h.out) ?_)
      unfold Hid
      refine (spec_l01Below p _ _ hcr.out).mono ?_
      rintro e w3 ⟨r3, rfl, h30, h31, hc3, hg3⟩
      have HO3 := Lib.hid (own_grown hown.out hp hg3)
      have HG3 := Lib.hid (grown_trans hgr.out hg3)
      clear hg3
      go_wp2_with (go_at_call 105; refine (fun h : Hid _ => h.out) ?_)
      unfold Hid
      refine (spec_l01Below p _ _ hc3).mono ?_
      rintro e w4 ⟨r4, rfl, h40, h41, hc4, hg4⟩
      have HO4 := Lib.hid (own_grown HO3.out hp hg4)
      have HG4 := Lib.hid (grown_trans HG3.out hg4)
      clear hg4 hc3
      go_wp2_with (go_at_call 105; refine (fun h : Hid _ => h.out) ?_)
      unfold Hid
      refine (spec_l01Below p _ _ hc4).mono ?_
      rintro e w5 ⟨r5, rfl, h50, h51, hc5, hg5⟩
      have HO5 := Lib.hid (own_grown HO4.out hp hg5)
      have HG5 := Lib.hid (grown_trans HG4.out hg5)
      have HC5 := Lib.hid hc5
      have hsz : w.heap.size ≤ w5.heap.size := HG5.out.size
      have hLl : L.length ≤ 10 := by have := hLk.out; omega
      clear hg5 hc4 hc5
      go_wp2_with (at_builtin; refine (fun h : Hid _ => h.out) ?_)
      unfold Hid
      refine append1g ei_Check rfl _ _ rfl w.heap.size w5 _ _ L.length _ (by rfl) HO5.out (GCheck.enc ⟨T + 1 + r3, r4, decide (0 < r5)⟩) (by rfl) rfl (by intro u hu; simp [GCheck.enc] at hu; rcases hu with rfl | rfl | rfl <;> rfl) (by omega) hsz ?_
      intro v6 w6 row ho6 hg6 hr6
      have HO6 := Lib.hid ho6
      have HC6 := Lib.hid (cur_grown HC5.out hg6 (fun q hq => by have := hr6 q hq; omega))
      have HG6 := Lib.hid (grown_over HG5.out hg6 (fun q hq => hr6 q hq))
      clear ho6 hg6 hr6
      go_wp2_with fail
      go_roundw
      case rel => exact ⟨k + 1, T + 1 + r3, L ++ [⟨T + 1 + r3, r4, decide (0 < r5)⟩], by omega, by go_num, rfl, by omega, by push_cast; omega, Lib.hid (by have := hLk.out; simp; omega), Lib.hid (fun x hx => by
        rcases List.mem_append.1 hx with hx | hx
        · exact hLm.out x hx
        · rw [List.mem_singleton] at hx; subst hx; simp only; omega), by unfold Hid; rw [List.length_append, List.flatMap_append]; simpa using HO6.out, HC6, HG6⟩
      case measure => simp [intOf] <;> omega
    · go_wp2_with fail
      go_ret
      exact ⟨_, L, rfl, hown.out, by have := hLk.out; omega, hLm.out, hcr.out, hgr.out⟩
/-- Stays have been drawn, a row of the call's own. -/
def DrawnStays (p : Nat) (w : World) (e : Ending) (w' : World) : Prop := ∃ (v : Value) (xs : List GStay), e = .returned v ∧ w'.ownsRow w.heap.size 95 4 v xs.length (xs.flatMap GStay.enc) ∧ xs.length ≤ 10 ∧ Cur w' p ∧ w.grownBy w' (some p)
set_option maxRecDepth 100000 in
set_option maxHeartbeats 2000000 in
theorem spec_l36Stays (p : Nat) (w : World) (hc : Cur w p) :
    Calls Try.prog 113 #[.pointer (some ⟨p, 0, none⟩)] w (DrawnStays p w) := by
  have hp := hc.lt
  obtain ⟨wa, hwa⟩ : ∃ wa, wa = w.alloc (.cells #[] 95) := ⟨_, rfl⟩
  have hca : Cur wa p := by rw [hwa]; exact cur_alloc hc _
  have hga : w.grownBy wa (some p) := by rw [hwa]; exact grown_alloc (grown_refl _ _) _
  have hoa : wa.ownsRow w.heap.size 95 4 (.slice (some ⟨w.heap.size, 0, none⟩) 0 0) 0 (([] : List GStay).flatMap GStay.enc) := by rw [hwa]; exact own_empty w w.heap.size 95 4 (Nat.le_refl _)
  have Hwa := Lib.hid hwa
  have HOa := Lib.hid hoa
  have HGa := Lib.hid hga
  clear hwa hoa hga hc
  go_enter Try.func113, Try.ntmps113
  go_wp2_with (go_at_call 105; refine (fun h : Hid _ => h.out) ?_)
  unfold Hid
  rw [← Hwa.out]
  refine (spec_l01Below p _ _ hca).mono ?_
  rintro e w2 ⟨r2, rfl, h20, h21, hc2, hg2⟩
  have HO2 := Lib.hid (own_grown HOa.out hp hg2)
  have HG2 := Lib.hid (grown_trans HGa.out hg2)
  have HC2 := Lib.hid hc2
  obtain ⟨n, rfl⟩ := Int.eq_ofNat_of_zero_le h20
  have hn10 : n ≤ 10 := by omega
  clear hg2 hc2 h20 h21 hca
  go_wp2_with fail
  go_loopw [3, 5] (fun ov iv wr => ∃ (k : Nat) (L : List GStay), k ≤ n ∧ iv = .int .i64 k ∧ Hid (L.length = k) ∧ Hid (wr.ownsRow w.heap.size 95 4 ov L.length (L.flatMap GStay.enc)) ∧ Hid (Cur wr p) ∧ Hid (w.grownBy wr (some p))) (fun _ iv _ => n - (intOf iv).toNat)
  case atStart => exact ⟨0, [], Nat.zero_le _, rfl, Lib.hid rfl, HO2, HC2, HG2⟩
  case round =>
    obtain ⟨k, L, hk, rfl, hLk, hown, hcr, hgr⟩ := hrel
    by_cases hlt : k < n
    · go_wp2_with (go_at_call 105; refine (fun h : Hid _ => h.out) ?_)
      unfold Hid
      refine (spec_l01Below p _ _ hcr.out).mono ?_
      rintro e w3 ⟨r3, rfl, h30, h31, hc3, hg3⟩
      have HO3 := Lib.hid (own_grown hown.out hp hg3)
      have HG3 := Lib.hid (grown_trans hgr.out hg3)
      clear hg3
      go_wp2_with (go_at_call 105; refine (fun h : Hid _ => h.out) ?_)
      unfold Hid
      refine (spec_l01Below p _ _ hc3).mono ?_
      rintro e w4 ⟨r4, rfl, h40, h41, hc4, hg4⟩
      have HO4 := Lib.hid (own_grown HO3.out hp hg4)
      have HG4 := Lib.hid (grown_trans HG3.out hg4)
      clear hg4 hc3
      go_wp2_with (go_at_call 105; refine (fun h : Hid _ => h.out) ?_)
      unfold Hid
      refine (spec_l01Below p _ _ hc4).mono ?_
      rintro e w5 ⟨r5, rfl, h50, h51, hc5, hg5⟩
      have HO5 := Lib.hid (own_grown HO4.out hp hg5)
      have HG5 := Lib.hid (grown_trans HG4.out hg5)
      clear hg5 hc4
      go_wp2_with (go_at_call 105; refine (fun h : Hid _ => h.out) ?_)
      unfold Hid
      refine (spec_l01Below p _ _ hc5).mono ?_
      rintro e w7 ⟨r7, rfl, h70, h71, hc7, hg7⟩
      have HO7 := Lib.hid (own_grown HO5.out hp hg7)
      have HG7 := Lib.hid (grown_trans HG5.out hg7)
      have HC7 := Lib.hid hc7
      have hsz : w.heap.size ≤ w7.heap.size := HG7.out.size
      have hLl : L.length ≤ 10 := by have := hLk.out; omega
      clear hg7 hc5 hc7
      go_wp2_with (at_builtin; refine (fun h : Hid _ => h.out) ?_)
      unfold Hid
      refine append1g ei_Stay rfl _ _ rfl w.heap.size w7 _ _ L.length _ (by rfl) HO7.out (GStay.enc ⟨r4, r5, r3, r3 + r7⟩) (by rfl) rfl (by intro u hu; simp [GStay.enc] at hu; rcases hu with rfl | rfl | rfl | rfl <;> rfl) (by omega) hsz ?_
      intro v6 w6 row ho6 hg6 hr6
      have HO6 := Lib.hid ho6
      have HC6 := Lib.hid (cur_grown HC7.out hg6 (fun q hq => by have := hr6 q hq; omega))
      have HG6 := Lib.hid (grown_over HG7.out hg6 (fun q hq => hr6 q hq))
      clear ho6 hg6 hr6
      go_wp2_with fail
      go_roundw
      case rel => exact ⟨k + 1, L ++ [⟨r4, r5, r3, r3 + r7⟩], by omega, by go_num, Lib.hid (by have := hLk.out; simp; omega), by unfold Hid; rw [List.length_append, List.flatMap_append]; simpa using HO6.out, HC6, HG6⟩
      case measure => simp [intOf] <;> omega
    · go_wp2_with fail
      go_ret
      exact ⟨_, L, rfl, hown.out, by have := hLk.out; omega, hcr.out, hgr.out⟩
/-- Checks and stays have been drawn. -/
def DrawnStock (w : World) (e : Ending) (w' : World) : Prop := ∃ (v : Value) (xs : List GCheck) (v2 : Value) (ss : List GStay), e = .returned (.tuple #[v, v2]) ∧ Ext w w' ∧ w'.ownsRow w.heap.size 97 3 v xs.length (xs.flatMap GCheck.enc) ∧ xs.length ≤ 10 ∧ (∀ x ∈ xs, 0 ≤ x.m ∧ x.m ≤ 1000) ∧ w'.ownsRow w.heap.size 95 4 v2 ss.length (ss.flatMap GStay.enc) ∧ ss.length ≤ 10
set_option maxRecDepth 100000 in
set_option maxHeartbeats 1000000 in
theorem spec_DrawStock (A : Option Addr) (n c : Nat) (xs : List Int) (w : World) (hx : Rd w 1 A n (xs.flatMap benc)) (hxs : ∀ x ∈ xs, 0 ≤ x ∧ x ≤ 255) (hn1 : n ≤ 1048576) :
    Calls Try.prog 68 #[.slice A n c] w (DrawnStock w) := by
  have cN := Lib.hid (spec_l01New A n c xs w hx hxs hn1)
  clear hx hxs
  go_enter Try.func68, Try.ntmps68
  go_wp2_with (go_at_call 78; refine (fun h : Hid _ => h.out) ?_)
  unfold Hid
  refine cN.out.mono ?_
  rintro e w1 ⟨p, rfl, hp, hc1, he1⟩
  have z1 := he1.size
  have hp1 := hc1.lt
  go_wp2_with (go_at_call 112; refine (fun h : Hid _ => h.out) ?_)
  unfold Hid
  refine (spec_l36Checks p _ hc1).mono ?_
  rintro e w2 ⟨v, L, rfl, ho2, hl2, hm2, hc2, hg2⟩
  obtain ⟨Av, cv, rfl, hcv⟩ := own_form ho2
  have z2 := hg2.size
  go_wp2_with (go_at_call 113; refine (fun h : Hid _ => h.out) ?_)
  unfold Hid
  refine (spec_l36Stays p _ hc2).mono ?_
  rintro e w3 ⟨v3, S, rfl, ho3, hl3, hc3, hg3⟩
  obtain ⟨As, cs, rfl, hcs⟩ := own_form ho3
  have HE3 := Lib.hid ((he1.grown hg2 (fun q hq => by injection hq with hq; omega)).grown hg3 (fun q hq => by injection hq with hq; omega))
  have HO2 := Lib.hid (own_weak (own_grown ho2 hp1 hg3) z1)
  have HO3 := Lib.hid (own_weak ho3 (Nat.le_trans z1 z2))
  clear ho2 ho3 hg2 hg3 hc2 hc3 he1 hc1
  go_wp2_with fail
  refine bodyPost_ret (v := .tuple #[.slice Av L.length cv, .slice As S.length cs]) (by simp [results, Try.results68, go_sem, *]) rfl ?_
  exact ⟨_, L, _, S, rfl, HE3.out, HO2.out, hl2, hm2, HO3.out, hl3⟩
set_option maxRecDepth 100000 in
set_option maxHeartbeats 400000 in
theorem laws_big (A : Option Addr) (n c : Nat) (w : World) : Calls Try.prog 17 #[.slice A n c] w fun e w' => e = .returned (.bool (decide (1048576 < n))) ∧ w = w' := by
  go_enter Try.func17, Try.ntmps17
  go_wp2_with fail
  go_ret
  exact ⟨ret_bool (by rw [Bool.eq_iff_iff]; simp; omega), rfl⟩
set_option maxRecDepth 100000 in
set_option maxHeartbeats 1000000 in
theorem laws_at (A : Option Addr) (n c : Nat) (xs : List Int) (i : Nat) (w : World) (hx : Rd w 1 A n (xs.flatMap benc)) (hxs : ∀ x ∈ xs, 0 ≤ x ∧ x ≤ 255) (hi : i ≤ 1000) (hn : n ≤ 1048576) :
    Calls Try.prog 63 #[.slice A n c, .int .i64 i] w fun e w' => ∃ z : Int, e = .returned (.int .i64 z) ∧ 0 ≤ z ∧ z ≤ 255 ∧ Ext w w' := by
  by_cases h0 : n = 0
  · subst h0
    go_enter Try.func63, Try.ntmps63
    go_wp2_with fail
    go_ret
    exact ⟨0, rfl, by omega, by omega, Ext.refl _⟩
  · have hq : (i * 5 + 1) % n < n := Nat.mod_lt _ (by omega)
    obtain ⟨b, off, x, rfl, hbs, hxk, h1⟩ := benc_at hx hq
    have hxb := hxs x (List.mem_of_getElem? hxk)
    have hne : ((n : Int) == 0) = false := beq_false_of_ne (by omega)
    have hne2 : ¬ (n : Int) = 0 := by omega
    have hm : ((i : Int) * 5 + 1).tmod (n : Int) = (((i * 5 + 1) % n : Nat) : Int) := by
      rw [show ((i : Int) * 5 + 1) = ((i * 5 + 1 : Nat) : Int) by push_cast; rfl]; rfl
    have hm2 : ((i : Int) * 5 + 1) % (n : Int) = (((i * 5 + 1) % n : Nat) : Int) := by
      rw [show ((i : Int) * 5 + 1) = ((i * 5 + 1 : Nat) : Int) by push_cast; rfl]; rfl
    have hqi : (((i * 5 + 1) % n : Nat) : Int) < n := by omega
    clear hx hxs hxk
    have hrem : ∀ W : World, (binOp .rem 3 (.int .i64 ((i : Int) * 5 + 1)) (.int .i64 (n : Int))).run Try.prog W = .ok (.int .i64 (((i * 5 + 1) % n : Nat) : Int)) W := fun W => by
      rw [binOp_rem]
      unfold Op.intDiv
      rw [if_neg hne2, ← hm]
      rfl
    have hqa : ((i : Int) * 5 + 1) % (n : Int) < n := Int.emod_lt_of_pos _ (by omega)
    have hqb : 0 ≤ ((i : Int) * 5 + 1) % (n : Int) := Int.emod_nonneg _ (by omega)
    have hqc : (((i : Int) * 5 + 1) % (n : Int)).toNat = (i * 5 + 1) % n := by rw [hm2]; rfl
    clear hm hm2 hne2
    go_enter Try.func63, Try.ntmps63
    go_wp2_with fail
    go_ret
    exact ⟨x, rfl, hxb.1, hxb.2, Ext.refl _⟩
end Go.Proofs.Ytlgmiifpdjalpaa
