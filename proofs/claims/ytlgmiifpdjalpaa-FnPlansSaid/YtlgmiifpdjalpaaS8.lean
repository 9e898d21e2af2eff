/- The drawing of loans and halls; no condition but what stands at each theorem. -/
import Derived.Test.YtlgmiifpdjalpaaS7
import Derived.Test.YtlgmiifpdjalpaaS5
import Derived.KernelRfl
namespace Go.Proofs.Ytlgmiifpdjalpaa
set_option linter.unusedSimpArgs false
set_option linter.unusedVariables false
open Go.RowKit
/-- A fit loan has been drawn. -/
def DrawnLoan (w : World) (p : Nat) (e : Ending) (w' : World) : Prop := ∃ l : GLoan, e = .returned (.agg #[.int .i64 l.l, .int .i64 l.lo, .int .i64 l.hi, .int .i64 l.g]) ∧ loOk l = true ∧ Cur w' p ∧ w.grownBy w' (some p)
set_option maxRecDepth 100000 in
set_option maxHeartbeats 1000000 in
theorem spec_l33Loan (p : Nat) (w : World) (hc : Cur w p) :
    Calls Try.prog 79 #[.pointer (some ⟨p, 0, none⟩)] w (DrawnLoan w p) := by
  have hg := grown_refl w (some p)
  have hp := hc.lt
  go_enter Try.func79, Try.ntmps79
  go_wp2_with (go_at_call 105; refine (spec_l01Below p _ _ (by (repeat (first | (with_reducible assumption) | (with_reducible refine cur_alloc ?_ _) | (with_reducible refine cur_drewN ?_ _) | (with_reducible refine cur_drew ?_) | (with_reducible refine cur_far ?_ ?_ _; rotate_left; omega))))).mono ?_; (first | ((fail_if_success (have := rA)); rintro e w1 ⟨rA, rfl, hr0, hr1, hc1, hg1⟩) | ((fail_if_success (have := rB)); rintro e w1 ⟨rB, rfl, hr0, hr1, hc1, hg1⟩) | ((fail_if_success (have := rC)); rintro e w1 ⟨rC, rfl, hr0, hr1, hc1, hg1⟩) | ((fail_if_success (have := rD)); rintro e w1 ⟨rD, rfl, hr0, hr1, hc1, hg1⟩) | ((fail_if_success (have := rE)); rintro e w1 ⟨rE, rfl, hr0, hr1, hc1, hg1⟩) | ((fail_if_success (have := rF)); rintro e w1 ⟨rF, rfl, hr0, hr1, hc1, hg1⟩) | ((fail_if_success (have := rG)); rintro e w1 ⟨rG, rfl, hr0, hr1, hc1, hg1⟩) | ((fail_if_success (have := rH)); rintro e w1 ⟨rH, rfl, hr0, hr1, hc1, hg1⟩)); have hs1 := hg1.size; (repeat (first | rw [heap_size_alloc] at hs1 | rw [heap_size_setCell] at hs1 | rw [heap_size_drew] at hs1 | rw [heap_size_drewN] at hs1)); replace hg : World.grownBy w w1 (some p) := grown_trans (by (repeat (first | (with_reducible exact hg) | (with_reducible refine grown_alloc ?_ _) | (with_reducible refine grown_drew ?_ _) | (with_reducible refine grown_drew1 ?_) | (with_reducible refine grown_fresh ?_ ?_ _; rotate_left; omega)))) hg1; (try (have k := grown_cell hg1 (w.heap.size) (by omega) (by first | omega | (simp; done) | (simp; omega)); have f := grown_frozen hg1 (w.heap.size) (by omega) (by first | omega | (simp; done) | (simp; omega)); have m : w1.heap.size ≠ w.heap.size := (by omega); have l : w.heap.size < w1.heap.size := (by omega))); (try (have k := grown_cell hg1 (w.heap.size + 1) (by omega) (by first | omega | (simp; done) | (simp; omega)); have f := grown_frozen hg1 (w.heap.size + 1) (by omega) (by first | omega | (simp; done) | (simp; omega)); have m : w1.heap.size ≠ w.heap.size + 1 := (by omega); have l : w.heap.size + 1 < w1.heap.size := (by omega))); clear hg1)
  refine bodyPost_ret (v := .agg #[.int .i64 (GLoan.mk (50 + rB) (30 + rA) (30 + rA + rC) rD).l, .int .i64 (GLoan.mk (50 + rB) (30 + rA) (30 + rA + rC) rD).lo, .int .i64 (GLoan.mk (50 + rB) (30 + rA) (30 + rA + rC) rD).hi, .int .i64 (GLoan.mk (50 + rB) (30 + rA) (30 + rA + rC) rD).g]) (by simp [results, Try.results79, go_sem, *]) rfl ?_
  exact ⟨⟨_, _, _, _⟩, rfl, by simp only [loOk, inB, Bool.and_eq_true, decide_eq_true_eq]; omega, by (repeat (first | (with_reducible assumption) | (with_reducible refine cur_alloc ?_ _) | (with_reducible refine cur_drewN ?_ _) | (with_reducible refine cur_drew ?_) | (with_reducible refine cur_far ?_ ?_ _; rotate_left; omega))), by (repeat (first | (with_reducible exact hg) | (with_reducible refine grown_alloc ?_ _) | (with_reducible refine grown_drew ?_ _) | (with_reducible refine grown_drew1 ?_) | (with_reducible refine grown_fresh ?_ ?_ _; rotate_left; omega)))⟩
/-- A hall's climate has been drawn. -/
def DrawnClimate (w : World) (p : Nat) (e : Ending) (w' : World) : Prop := ∃ l : GClimate, e = .returned (.agg #[.int .i64 l.l, .int .i64 l.h, .int .i64 l.g]) ∧ Cur w' p ∧ w.grownBy w' (some p)
set_option maxRecDepth 100000 in
set_option maxHeartbeats 1000000 in
theorem spec_l33Climate (p : Nat) (w : World) (hc : Cur w p) :
    Calls Try.prog 121 #[.pointer (some ⟨p, 0, none⟩)] w (DrawnClimate w p) := by
  have hg := grown_refl w (some p)
  have hp := hc.lt
  go_enter Try.func121, Try.ntmps121
  go_wp2_with (go_at_call 105; refine (spec_l01Below p _ _ (by (repeat (first | (with_reducible assumption) | (with_reducible refine cur_alloc ?_ _) | (with_reducible refine cur_drewN ?_ _) | (with_reducible refine cur_drew ?_) | (with_reducible refine cur_far ?_ ?_ _; rotate_left; omega))))).mono ?_; (first | ((fail_if_success (have := rA)); rintro e w1 ⟨rA, rfl, hr0, hr1, hc1, hg1⟩) | ((fail_if_success (have := rB)); rintro e w1 ⟨rB, rfl, hr0, hr1, hc1, hg1⟩) | ((fail_if_success (have := rC)); rintro e w1 ⟨rC, rfl, hr0, hr1, hc1, hg1⟩) | ((fail_if_success (have := rD)); rintro e w1 ⟨rD, rfl, hr0, hr1, hc1, hg1⟩) | ((fail_if_success (have := rE)); rintro e w1 ⟨rE, rfl, hr0, hr1, hc1, hg1⟩) | ((fail_if_success (have := rF)); rintro e w1 ⟨rF, rfl, hr0, hr1, hc1, hg1⟩) | ((fail_if_success (have := rG)); rintro e w1 ⟨rG, rfl, hr0, hr1, hc1, hg1⟩) | ((fail_if_success (have := rH)); rintro e w1 ⟨rH, rfl, hr0, hr1, hc1, hg1⟩)); have hs1 := hg1.size; (repeat (first | rw [heap_size_alloc] at hs1 | rw [heap_size_setCell] at hs1 | rw [heap_size_drew] at hs1 | rw [heap_size_drewN] at hs1)); replace hg : World.grownBy w w1 (some p) := grown_trans (by (repeat (first | (with_reducible exact hg) | (with_reducible refine grown_alloc ?_ _) | (with_reducible refine grown_drew ?_ _) | (with_reducible refine grown_drew1 ?_) | (with_reducible refine grown_fresh ?_ ?_ _; rotate_left; omega)))) hg1; (try (have k := grown_cell hg1 (w.heap.size) (by omega) (by first | omega | (simp; done) | (simp; omega)); have f := grown_frozen hg1 (w.heap.size) (by omega) (by first | omega | (simp; done) | (simp; omega)); have m : w1.heap.size ≠ w.heap.size := (by omega); have l : w.heap.size < w1.heap.size := (by omega))); (try (have k := grown_cell hg1 (w.heap.size + 1) (by omega) (by first | omega | (simp; done) | (simp; omega)); have f := grown_frozen hg1 (w.heap.size + 1) (by omega) (by first | omega | (simp; done) | (simp; omega)); have m : w1.heap.size ≠ w.heap.size + 1 := (by omega); have l : w.heap.size + 1 < w1.heap.size := (by omega))); clear hg1)
  refine bodyPost_ret (v := .agg #[.int .i64 (GClimate.mk (30 + rA) (30 + rB) rC).l, .int .i64 (GClimate.mk (30 + rA) (30 + rB) rC).h, .int .i64 (GClimate.mk (30 + rA) (30 + rB) rC).g]) (by simp [results, Try.results121, go_sem, *]) rfl ?_
  exact ⟨⟨_, _, _⟩, rfl, by (repeat (first | (with_reducible assumption) | (with_reducible refine cur_alloc ?_ _) | (with_reducible refine cur_drewN ?_ _) | (with_reducible refine cur_drew ?_) | (with_reducible refine cur_far ?_ ?_ _; rotate_left; omega))), by (repeat (first | (with_reducible exact hg) | (with_reducible refine grown_alloc ?_ _) | (with_reducible refine grown_drew ?_ _) | (with_reducible refine grown_drew1 ?_) | (with_reducible refine grown_fresh ?_ ?_ _; rotate_left; omega)))⟩
theorem ei_Climate : EI Try.prog 26 36 3 := ei_of Try.underlying26 (by omega) (by kernel_rfl)
/-- A row of halls has been drawn, a row of the call's own. -/
def DrawnHalls (w : World) (p : Nat) (e : Ending) (w' : World) : Prop := ∃ (v : Value) (xs : List GClimate), e = .returned v ∧ w'.ownsRow w.heap.size 36 3 v xs.length (xs.flatMap GClimate.enc) ∧ xs.length ≤ 4 ∧ 1 ≤ xs.length ∧ Cur w' p ∧ w.grownBy w' (some p)
set_option maxRecDepth 100000 in
set_option maxHeartbeats 1000000 in
theorem spec_l33Halls (p : Nat) (w : World) (hc : Cur w p) :
    Calls Try.prog 80 #[.pointer (some ⟨p, 0, none⟩)] w (DrawnHalls w p) := by
  have hg := grown_refl w (some p)
  have hp := hc.lt
  go_enter Try.func80, Try.ntmps80
  go_wp2_with (go_at_call 105; refine (spec_l01Below p _ _ (by (repeat (first | (with_reducible assumption) | (with_reducible refine cur_alloc ?_ _) | (with_reducible refine cur_drewN ?_ _) | (with_reducible refine cur_drew ?_) | (with_reducible refine cur_far ?_ ?_ _; rotate_left; omega))))).mono ?_; (first | ((fail_if_success (have := rA)); rintro e w1 ⟨rA, rfl, hr0, hr1, hc1, hg1⟩) | ((fail_if_success (have := rB)); rintro e w1 ⟨rB, rfl, hr0, hr1, hc1, hg1⟩) | ((fail_if_success (have := rC)); rintro e w1 ⟨rC, rfl, hr0, hr1, hc1, hg1⟩) | ((fail_if_success (have := rD)); rintro e w1 ⟨rD, rfl, hr0, hr1, hc1, hg1⟩) | ((fail_if_success (have := rE)); rintro e w1 ⟨rE, rfl, hr0, hr1, hc1, hg1⟩) | ((fail_if_success (have := rF)); rintro e w1 ⟨rF, rfl, hr0, hr1, hc1, hg1⟩) | ((fail_if_success (have := rG)); rintro e w1 ⟨rG, rfl, hr0, hr1, hc1, hg1⟩) | ((fail_if_success (have := rH)); rintro e w1 ⟨rH, rfl, hr0, hr1, hc1, hg1⟩)); have hs1 := hg1.size; (repeat (first | rw [heap_size_alloc] at hs1 | rw [heap_size_setCell] at hs1 | rw [heap_size_drew] at hs1 | rw [heap_size_drewN] at hs1)); replace hg : World.grownBy w w1 (some p) := grown_trans (by (repeat (first | (with_reducible exact hg) | (with_reducible refine grown_alloc ?_ _) | (with_reducible refine grown_drew ?_ _) | (with_reducible refine grown_drew1 ?_) | (with_reducible refine grown_fresh ?_ ?_ _; rotate_left; omega)))) hg1; have Ho0 := Lib.hid (own_grown (own_empty w w.heap.size 36 3 (by omega)) hp hg1); clear hg1)
  go_loopw [3, 5] (fun o i wr => ∃ (k : Nat) (L : List GClimate), (k : Int) ≤ 1 + rA ∧ i = .int .i64 k ∧ wr.ownsRow w.heap.size 36 3 o L.length (L.flatMap GClimate.enc) ∧ L.length = k ∧ Cur wr p ∧ w.grownBy wr (some p) ∧ w1.heap.size ≤ wr.heap.size) (fun _ i _ => (1 + rA).toNat - (intOf i).toNat)
  case atStart => exact ⟨0, [], by omega, rfl, Ho0.out, rfl, by (repeat (first | (with_reducible assumption) | (with_reducible refine cur_alloc ?_ _) | (with_reducible refine cur_drewN ?_ _) | (with_reducible refine cur_drew ?_) | (with_reducible refine cur_far ?_ ?_ _; rotate_left; omega))), by (repeat (first | (with_reducible exact hg) | (with_reducible refine grown_alloc ?_ _) | (with_reducible refine grown_drew ?_ _) | (with_reducible refine grown_drew1 ?_) | (with_reducible refine grown_fresh ?_ ?_ _; rotate_left; omega))), by omega⟩
  case round =>
    obtain ⟨k, L, hk, rfl, hown, hLk, hcr, hgr, hsr⟩ := hrel
    by_cases hlt : (k : Int) < 1 + rA
    · have HO := Lib.hid hown
      clear hown
      go_wp2_with (first
          | (go_at_call 121; refine (spec_l33Climate p _ hcr).mono ?_; rintro e w2 ⟨x, rfl, hc2, hg2⟩; have HO1 := Lib.hid (own_grown HO.out (by omega) hg2); have HG2 := Lib.hid hg2; have hs2 := hg2.size; clear hg2)
          | (at_builtin; refine append1g ei_Climate rfl _ _ rfl w.heap.size _ _ u3 L.length _ rfl (HO1.out.alloc _) (GClimate.enc x) (by rw [heap_size_alloc]; rfl) rfl (by intro u hu; simp [GClimate.enc] at hu; rcases hu with rfl | rfl | rfl <;> rfl) (by omega) (by rw [heap_size_alloc]; omega) ?_; intro v' w3 row ho3 he3 hr3; have HO3 := Lib.hid ho3; have HE3 := Lib.hid he3; clear ho3 he3))
      go_roundw
      case rel => exact ⟨k + 1, L ++ [x], by omega, by go_num, by simpa using HO3.out, by simp; omega, cur_grown (by (repeat (first | (with_reducible assumption) | (with_reducible refine cur_alloc ?_ _) | (with_reducible refine cur_drewN ?_ _) | (with_reducible refine cur_drew ?_) | (with_reducible refine cur_far ?_ ?_ _; rotate_left; omega)))) HE3.out (fun q hq => by have := hr3 q hq; omega), grown_over (grown_alloc (grown_trans hgr HG2.out) _) HE3.out (fun q hq => by have := hr3 q hq; omega), by have h3 := HE3.out.size; rw [heap_size_alloc] at h3; omega⟩
      case measure => simp [intOf]; omega
    · go_wp2_with fail
      go_ret
      exact ⟨_, L, rfl, hown, by omega, by omega, hcr, hgr⟩
/-- Two fit loans and a row of halls have been drawn. -/
def DrawnLoans (w : World) (e : Ending) (w' : World) : Prop := ∃ (a b : GLoan) (v : Value) (xs : List GClimate), e = .returned (.tuple #[.agg #[.int .i64 a.l, .int .i64 a.lo, .int .i64 a.hi, .int .i64 a.g], .agg #[.int .i64 b.l, .int .i64 b.lo, .int .i64 b.hi, .int .i64 b.g], v]) ∧ loOk a = true ∧ loOk b = true ∧ w'.ownsRow w.heap.size 36 3 v xs.length (xs.flatMap GClimate.enc) ∧ xs.length ≤ 4 ∧ 1 ≤ xs.length ∧ Ext w w'
set_option maxRecDepth 100000 in
set_option maxHeartbeats 1000000 in
theorem spec_DrawLoans (A : Option Addr) (n c : Nat) (xs : List Int) (w : World) (hx : Rd w 1 A n (xs.flatMap benc)) (hxs : ∀ x ∈ xs, 0 ≤ x ∧ x ≤ 255) (hn1 : n ≤ 1048576) :
    Calls Try.prog 18 #[.slice A n c] w (DrawnLoans w) := by
  have cN := Lib.hid (fun W (he : Ext w W) => spec_l01New A n c xs W (hx.keep he) hxs hn1)
  clear hx hxs
  go_enter Try.func18, Try.ntmps18
  go_wp2_with (go_at_call 78; refine (fun h : Hid _ => h.out) ?_)
  unfold Hid
  have HEa := Lib.hid (((Ext.refl w).alloc (.cells #[.int .i64 0, .int .i64 0, .int .i64 0, .int .i64 0] 25)).alloc (.cells #[.int .i64 0, .int .i64 0, .int .i64 0, .int .i64 0] 25))
  refine (cN.out _ HEa.out).mono ?_
  rintro e w1 ⟨p, rfl, hp, hc1, he1⟩
  have z1 := he1.size
  have hp1 := hc1.lt
  simp only [heap_size_alloc] at hp z1
  have B2 := Lib.hid ((((Blk.new w 25 #[.int .i64 0, .int .i64 0, .int .i64 0, .int .i64 0]).keep ((Ext.refl _).alloc (.cells #[.int .i64 0, .int .i64 0, .int .i64 0, .int .i64 0] 25))).keep he1))
  have B3 := Blk.new (w.alloc (.cells #[.int .i64 0, .int .i64 0, .int .i64 0, .int .i64 0] 25)) 25 #[.int .i64 0, .int .i64 0, .int .i64 0, .int .i64 0]
  rw [heap_size_alloc] at B3
  have B3 := Lib.hid (B3.keep he1)
  have HE1 := Lib.hid (HEa.out.trans he1)
  clear he1
  go_wp2_with (go_at_call 79; refine (fun h : Hid _ => h.out) ?_)
  unfold Hid
  refine (spec_l33Loan p _ hc1).mono ?_
  rintro e w2 ⟨a, rfl, ha, hc2, hg2⟩
  have z2 := hg2.size
  obtain ⟨w3, hw3⟩ : ∃ w3, w3 = w2.alloc (.cells #[.int .i64 a.l, .int .i64 a.lo, .int .i64 a.hi, .int .i64 a.g] 25) := ⟨_, rfl⟩
  have B2 := Lib.hid ((blk_grown B2.out (by omega) hg2).keep ((Ext.refl _).alloc (.cells #[.int .i64 a.l, .int .i64 a.lo, .int .i64 a.hi, .int .i64 a.g] 25)))
  have B3 := Lib.hid ((blk_grown B3.out (by omega) hg2).keep ((Ext.refl _).alloc (.cells #[.int .i64 a.l, .int .i64 a.lo, .int .i64 a.hi, .int .i64 a.g] 25)))
  have B6 := Lib.hid (Blk.new w2 25 #[.int .i64 a.l, .int .i64 a.lo, .int .i64 a.hi, .int .i64 a.g])
  have HE2 := Lib.hid ((HE1.out.grown hg2 (fun q hq => by injection hq with hq; omega)).alloc (.cells #[.int .i64 a.l, .int .i64 a.lo, .int .i64 a.hi, .int .i64 a.g] 25))
  have hc3 := cur_alloc hc2 (.cells #[.int .i64 a.l, .int .i64 a.lo, .int .i64 a.hi, .int .i64 a.g] 25)
  have z3 : w3.heap.size = w2.heap.size + 1 := by rw [hw3]; simp
  rw [← hw3] at B2 B3 B6 HE2 hc3
  clear hg2 hc2
  go_wp2_with (go_at_call 79; refine (fun h : Hid _ => h.out) ?_)
  unfold Hid
  rw [← hw3]
  refine (spec_l33Loan p _ hc3).mono ?_
  rintro e w4 ⟨b, rfl, hb, hc4, hg4⟩
  have z4 := hg4.size
  obtain ⟨w5, hw5⟩ : ∃ w5, w5 = w4.alloc (.cells #[.int .i64 b.l, .int .i64 b.lo, .int .i64 b.hi, .int .i64 b.g] 25) := ⟨_, rfl⟩
  have B2 := Lib.hid ((blk_grown B2.out (by omega) hg4).keep ((Ext.refl _).alloc (.cells #[.int .i64 b.l, .int .i64 b.lo, .int .i64 b.hi, .int .i64 b.g] 25)))
  have B3 := Lib.hid ((blk_grown B3.out (by omega) hg4).keep ((Ext.refl _).alloc (.cells #[.int .i64 b.l, .int .i64 b.lo, .int .i64 b.hi, .int .i64 b.g] 25)))
  have B6 := Lib.hid ((blk_grown B6.out (by omega) hg4).keep ((Ext.refl _).alloc (.cells #[.int .i64 b.l, .int .i64 b.lo, .int .i64 b.hi, .int .i64 b.g] 25)))
  have B7 := Lib.hid (Blk.new w4 25 #[.int .i64 b.l, .int .i64 b.lo, .int .i64 b.hi, .int .i64 b.g])
  have HE5 := Lib.hid ((HE2.out.grown hg4 (fun q hq => by injection hq with hq; omega)).alloc (.cells #[.int .i64 b.l, .int .i64 b.lo, .int .i64 b.hi, .int .i64 b.g] 25))
  have hc5 := cur_alloc hc4 (.cells #[.int .i64 b.l, .int .i64 b.lo, .int .i64 b.hi, .int .i64 b.g] 25)
  have z5 : w5.heap.size = w4.heap.size + 1 := by rw [hw5]; simp
  rw [← hw5] at B2 B3 B6 B7 HE5 hc5
  clear hg4 hc4 hc1 hc3
  have HW5 := Lib.hid hw5
  have hp2 : p ≠ w2.heap.size := by omega
  have hp4 : p ≠ w4.heap.size := by omega
  have q1 : w2.heap.size ≠ w.heap.size := by omega
  have q2 : w2.heap.size ≠ w.heap.size + 1 := by omega
  have q3 : w4.heap.size ≠ w.heap.size := by omega
  have q4 : w4.heap.size ≠ w.heap.size + 1 := by omega
  have q5 : w.heap.size + 1 ≠ w.heap.size := by omega
  have q1' := q1.symm
  have q2' := q2.symm
  have q3' := q3.symm
  have q4' := q4.symm
  have hc5 := Lib.hid hc5
  clear hw3 hw5
  obtain ⟨g6, hg6⟩ : ∃ g6, g6 = w2.heap.size := ⟨_, rfl⟩
  obtain ⟨g7, hg7⟩ : ∃ g7, g7 = w4.heap.size := ⟨_, rfl⟩
  have x60 := B6.out.cellAt (i := 0) (by simp)
  have x61 := B6.out.cellAt (i := 1) (by simp)
  have x62 := B6.out.cellAt (i := 2) (by simp)
  have x63 := B6.out.cellAt (i := 3) (by simp)
  have x70 := B7.out.cellAt (i := 0) (by simp)
  have x71 := B7.out.cellAt (i := 1) (by simp)
  have x72 := B7.out.cellAt (i := 2) (by simp)
  have x73 := B7.out.cellAt (i := 3) (by simp)
  simp at x60 x61 x62 x63 x70 x71 x72 x73
  go_wp2_with fail
  rw [← HW5.out]
  go_region_held3 (fun w' => w'.cell? ⟨w2.heap.size, 0, none⟩ = some (.int .i64 a.l) ∧ w'.cell? ⟨w2.heap.size, 1, none⟩ = some (.int .i64 a.lo) ∧ w'.cell? ⟨w2.heap.size, 2, none⟩ = some (.int .i64 a.hi) ∧ w'.cell? ⟨w2.heap.size, 3, none⟩ = some (.int .i64 a.g) ∧ w'.cell? ⟨w4.heap.size, 0, none⟩ = some (.int .i64 b.l) ∧ w'.cell? ⟨w4.heap.size, 1, none⟩ = some (.int .i64 b.lo) ∧ w'.cell? ⟨w4.heap.size, 2, none⟩ = some (.int .i64 b.hi) ∧ w'.cell? ⟨w4.heap.size, 3, none⟩ = some (.int .i64 b.g)) (first | (refine ⟨?_, ?_, ?_, ?_, ?_, ?_, ?_, ?_⟩ <;> simp only [cell_set_far, q1', q2', q3', q4', ne_eq, not_false_eq_true] <;> assumption) | go_keep) (first
    | (go_at_call 80; refine (spec_l33Halls p w5.drew (cur_drew hc5.out)).mono ?_; rintro e w6 ⟨v, xs6, rfl, ho6, hl6, hl6', hc6, hg6⟩; have C2 := blk_grown B2.out.drew (by omega) hg6; have C3 := blk_grown B3.out.drew (by omega) hg6; have C6 := blk_grown B6.out.drew (by omega) hg6; have C7 := blk_grown B7.out.drew (by omega) hg6; have x60 := C6.cellAt (i := 0) (by simp); have x61 := C6.cellAt (i := 1) (by simp); have x62 := C6.cellAt (i := 2) (by simp); have x63 := C6.cellAt (i := 3) (by simp); have x70 := C7.cellAt (i := 0) (by simp); have x71 := C7.cellAt (i := 1) (by simp); have x72 := C7.cellAt (i := 2) (by simp); have x73 := C7.cellAt (i := 3) (by simp); have x20 := C2.cellAt (i := 0) (by simp); have x21 := C2.cellAt (i := 1) (by simp); have x22 := C2.cellAt (i := 2) (by simp); have x23 := C2.cellAt (i := 3) (by simp); have x30 := C3.cellAt (i := 0) (by simp); have x31 := C3.cellAt (i := 1) (by simp); have x32 := C3.cellAt (i := 2) (by simp); have x33 := C3.cellAt (i := 3) (by simp); have f2 := C2.free; have f3 := C3.free; simp at x60 x61 x62 x63 x70 x71 x72 x73 x20 x21 x22 x23 x30 x31 x32 x33))
  have HE6 := (HE5.out.drew).grown hg6 (fun q hq => by injection hq with hq; omega)
  have zz6 : w5.heap.size ≤ w6.heap.size := hg6.size
  have g1 := grown_set (grown_set (grown_set (grown_set (grown_refl w6 (some w.heap.size)) 0 (.int .i64 a.l)) 1 (.int .i64 a.lo)) 2 (.int .i64 a.hi)) 3 (.int .i64 a.g)
  have o1 := own_grown ho6 (show w.heap.size < w5.drew.heap.size by show w.heap.size < w5.heap.size; omega) g1
  have b1 := (((C2.set 0 (.int .i64 a.l)).set 1 (.int .i64 a.lo)).set 2 (.int .i64 a.hi)).set 3 (.int .i64 a.g)
  have c1 := (((C3.far (p := ⟨w.heap.size, 0, none⟩) q5 (.int .i64 a.l)).far (p := ⟨w.heap.size, 1, none⟩) q5 (.int .i64 a.lo)).far (p := ⟨w.heap.size, 2, none⟩) q5 (.int .i64 a.hi)).far (p := ⟨w.heap.size, 3, none⟩) q5 (.int .i64 a.g)
  have e1 : Ext w ((((w6.setCell ⟨w.heap.size, 0, none⟩ (.int .i64 a.l)).setCell ⟨w.heap.size, 1, none⟩ (.int .i64 a.lo)).setCell ⟨w.heap.size, 2, none⟩ (.int .i64 a.hi)).setCell ⟨w.heap.size, 3, none⟩ (.int .i64 a.g)) :=
    (((HE6.setCell (Nat.le_refl _) _).setCell (Nat.le_refl _) _).setCell (Nat.le_refl _) _).setCell (Nat.le_refl _) _
  generalize (((w6.setCell ⟨w.heap.size, 0, none⟩ (.int .i64 a.l)).setCell ⟨w.heap.size, 1, none⟩ (.int .i64 a.lo)).setCell ⟨w.heap.size, 2, none⟩ (.int .i64 a.hi)).setCell ⟨w.heap.size, 3, none⟩ (.int .i64 a.g) = w8 at g1 o1 b1 c1 e1 ⊢
  have g2 := grown_set (grown_set (grown_set (grown_set (grown_refl w8 (some (w.heap.size + 1))) 0 (.int .i64 b.l)) 1 (.int .i64 b.lo)) 2 (.int .i64 b.hi)) 3 (.int .i64 b.g)
  have o2 := own_grown o1 (show w.heap.size + 1 < w5.drew.heap.size by show w.heap.size + 1 < w5.heap.size; omega) g2
  have b2 := (((b1.far (p := ⟨w.heap.size + 1, 0, none⟩) q5.symm (.int .i64 b.l)).far (p := ⟨w.heap.size + 1, 1, none⟩) q5.symm (.int .i64 b.lo)).far (p := ⟨w.heap.size + 1, 2, none⟩) q5.symm (.int .i64 b.hi)).far (p := ⟨w.heap.size + 1, 3, none⟩) q5.symm (.int .i64 b.g)
  have c2 := (((c1.set 0 (.int .i64 b.l)).set 1 (.int .i64 b.lo)).set 2 (.int .i64 b.hi)).set 3 (.int .i64 b.g)
  have e2 : Ext w ((((w8.setCell ⟨w.heap.size + 1, 0, none⟩ (.int .i64 b.l)).setCell ⟨w.heap.size + 1, 1, none⟩ (.int .i64 b.lo)).setCell ⟨w.heap.size + 1, 2, none⟩ (.int .i64 b.hi)).setCell ⟨w.heap.size + 1, 3, none⟩ (.int .i64 b.g)) :=
    (((e1.setCell (Nat.le_succ _) _).setCell (Nat.le_succ _) _).setCell (Nat.le_succ _) _).setCell (Nat.le_succ _) _
  generalize (((w8.setCell ⟨w.heap.size + 1, 0, none⟩ (.int .i64 b.l)).setCell ⟨w.heap.size + 1, 1, none⟩ (.int .i64 b.lo)).setCell ⟨w.heap.size + 1, 2, none⟩ (.int .i64 b.hi)).setCell ⟨w.heap.size + 1, 3, none⟩ (.int .i64 b.g) = w9 at g2 o2 b2 c2 e2 ⊢
  simp only [List.setIfInBounds_toArray, List.set_cons_succ, List.set_cons_zero] at b2 c2
  have y20 := b2.cellAt (i := 0) (by simp)
  have y21 := b2.cellAt (i := 1) (by simp)
  have y22 := b2.cellAt (i := 2) (by simp)
  have y23 := b2.cellAt (i := 3) (by simp)
  have y30 := c2.cellAt (i := 0) (by simp)
  have y31 := c2.cellAt (i := 1) (by simp)
  have y32 := c2.cellAt (i := 2) (by simp)
  have y33 := c2.cellAt (i := 3) (by simp)
  simp at y20 y21 y22 y23 y30 y31 y32 y33
  have O9 := Lib.hid (own_weak o2 (show w.heap.size ≤ w5.drew.heap.size by show w.heap.size ≤ w5.heap.size; omega))
  have E9 := Lib.hid e2
  clear g1 g2 o1 o2 b1 b2 c1 c2 e1 e2 C2 C3 C6 C7 ho6 hc6 hg6
  go_wp2_with fail
  refine bodyPost_ret (v := .tuple #[.agg #[.int .i64 a.l, .int .i64 a.lo, .int .i64 a.hi, .int .i64 a.g], .agg #[.int .i64 b.l, .int .i64 b.lo, .int .i64 b.hi, .int .i64 b.g], v]) (by simp [results, Try.results18, go_sem, y20, y21, y22, y23, y30, y31, y32, y33]) rfl ?_
  exact ⟨a, b, v, xs6, rfl, ha, hb, O9.out, hl6, hl6', E9.out⟩
end Go.Proofs.Ytlgmiifpdjalpaa
