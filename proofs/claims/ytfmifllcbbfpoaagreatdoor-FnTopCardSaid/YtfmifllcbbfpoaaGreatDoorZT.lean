/- Texts of one proof, laid one behind the other (SDc, SDd); no condition but what stands at each theorem. -/
import Derived.Test.YtfmifllcbbfpoaaGreatDoorZL
import Derived.Test.YtfmifllcbbfpoaaGreatDoorZS
/- The drawing of an act; no condition but what stands at each theorem. -/
namespace Go.Proofs.YtfmifllcbbfpoaaGreatDoor
set_option linter.unusedSimpArgs false
set_option linter.unusedVariables false
open Go.RowKit Go.Sort
/-- A valid act has been drawn. -/
def DrawnAct (p : Nat) (w : World) (e : Ending) (w' : World) : Prop := ∃ a : GAct, e = .returned (.agg #[.int .i64 a.k, .int .i64 a.a, .int .i64 a.b, .int .i64 a.c, .int .i64 a.d]) ∧ acOk a = true ∧ Cur w' p ∧ w.grownBy w' (some p)
theorem drawnA {p : Nat} {w w' : World} {k a b c d : Int} (h : acOk ⟨k, a, b, c, d⟩ = true) (hc : Cur w' p) (hg : w.grownBy w' (some p)) : DrawnAct p w (.returned (.agg #[.int .i64 k, .int .i64 a, .int .i64 b, .int .i64 c, .int .i64 d])) w' := ⟨⟨k, a, b, c, d⟩, rfl, h, hc, hg⟩
theorem set5_cur {W : World} {p g : Nat} (h : Cur W p) (hq : p < g) (u0 u1 u2 u3 u4 : Value) : Cur (set5 W g u0 u1 u2 u3 u4) p := by
  unfold set5; exact cur_far (cur_far (cur_far (cur_far (cur_far h hq _) hq _) hq _) hq _) hq _
theorem set5_grown {w W : World} {row : Option Nat} {g : Nat} (h : w.grownBy W row) (hq : w.heap.size ≤ g) (u0 u1 u2 u3 u4 : Value) : w.grownBy (set5 W g u0 u1 u2 u3 u4) row := by
  unfold set5; exact grown_fresh (grown_fresh (grown_fresh (grown_fresh (grown_fresh h hq _) hq _) hq _) hq _) hq _
set_option maxRecDepth 100000 in
set_option maxHeartbeats 2000000 in
theorem spec_l39Act (p : Nat) (w : World) (hc : Cur w p) : Calls Tryz.prog 86 #[.pointer (some ⟨p, 0, none⟩)] w (DrawnAct p w) := by
  have hp := hc.lt
  obtain ⟨wa, hwa⟩ : ∃ wa, wa = w.alloc (.cells #[.int .i64 0, .int .i64 0, .int .i64 0, .int .i64 0, .int .i64 0] 37) := ⟨_, rfl⟩
  have hB : Blk wa w.heap.size 37 #[.int .i64 0, .int .i64 0, .int .i64 0, .int .i64 0, .int .i64 0] := by rw [hwa]; exact Blk.new _ _ _
  have hca : Cur wa p := by rw [hwa]; exact cur_alloc hc _
  have hga : w.grownBy wa (some p) := by rw [hwa]; exact grown_alloc (grown_refl _ _) _
  have Hwa := Lib.hid hwa
  have HB0 := Lib.hid hB
  have HG0 := Lib.hid hga
  have cA := Lib.hid (spec_l01Below p 8 wa hca)
  clear hwa hB hga hca hc
  go_enter Tryz.func86, Tryz.ntmps86
  go_wp2_with (go_at_call 71; refine (fun h : Hid _ => h.out) ?_)
  unfold Hid
  rw [← Hwa.out]
  refine cA.out.mono ?_
  rintro e w1 ⟨r, rfl, hr0, hr1, hc1, hg1⟩
  have HB1 := Lib.hid (blk_grown HB0.out (by omega) hg1)
  have HG1 := Lib.hid (grown_trans HG0.out hg1)
  have HC1 := Lib.hid hc1
  clear hg1 hc1 cA
  by_cases q0 : r = 0
  · subst q0
    go_wp2_with (go_at_call 71; refine (fun h : Hid _ => h.out) ?_)
    unfold Hid
    refine (spec_l01Below p _ _ HC1.out).mono ?_
    rintro e w2 ⟨a, rfl, a0, a1, hc2, hg2⟩
    have HB2 := Lib.hid (blk_grown HB1.out (by omega) hg2)
    have HG2 := Lib.hid (grown_trans HG1.out hg2)
    have HC2 := Lib.hid hc2
    clear hg2 hc2
    go_wp2_with (go_at_call 71; refine (fun h : Hid _ => h.out) ?_)
    unfold Hid
    refine (spec_l01Below p _ _ HC2.out).mono ?_
    rintro e w3 ⟨b, rfl, b0, b1, hc3, hg3⟩
    have HB3 := Lib.hid (blk_grown HB2.out (by omega) hg3)
    have HG3 := Lib.hid (grown_trans HG2.out hg3)
    have HC3 := Lib.hid hc3
    clear hg3 hc3
    have c0 : w3.cell? ⟨w.heap.size, 0, none⟩ = some (.int .i64 0) := HB3.out.cell 0
    have c1 : w3.cell? ⟨w.heap.size, 1, none⟩ = some (.int .i64 0) := HB3.out.cell 1
    have c2 : w3.cell? ⟨w.heap.size, 2, none⟩ = some (.int .i64 0) := HB3.out.cell 2
    have c3 : w3.cell? ⟨w.heap.size, 3, none⟩ = some (.int .i64 0) := HB3.out.cell 3
    have c4 : w3.cell? ⟨w.heap.size, 4, none⟩ = some (.int .i64 0) := HB3.out.cell 4
    have fz : ∀ o, w3.frozen? ⟨w.heap.size, o, none⟩ = false := fun o => HB3.out.free o
    go_wp2_with fail
    obtain ⟨WF, hWF⟩ : ∃ WF, WF = set5 w3 w.heap.size (.int .i64 (1)) (.int .i64 (a)) (.int .i64 (b)) (.int .i64 (0)) (.int .i64 (0)) := ⟨_, rfl⟩
    have FB := set5_blk HB3.out (.int .i64 (1)) (.int .i64 (a)) (.int .i64 (b)) (.int .i64 (0)) (.int .i64 (0))
    have FC := set5_cur HC3.out hp (.int .i64 (1)) (.int .i64 (a)) (.int .i64 (b)) (.int .i64 (0)) (.int .i64 (0))
    have FG := set5_grown HG3.out (Nat.le_refl _) (.int .i64 (1)) (.int .i64 (a)) (.int .i64 (b)) (.int .i64 (0)) (.int .i64 (0))
    rw [← hWF] at FB FC FG
    unfold set5 at hWF
    rw [← hWF]
    clear hWF c0 c1 c2 c3 c4 fz
    have y0 := FB.cell 0
    have y1 := FB.cell 1
    have y2 := FB.cell 2
    have y3 := FB.cell 3
    have y4 := FB.cell 4
    refine bodyPost_ret (v := .agg #[.int .i64 (1), .int .i64 (a), .int .i64 (b), .int .i64 (0), .int .i64 (0)]) (by simp [results, Tryz.results86, go_sem, y0, y1, y2, y3, y4]) rfl (drawnA ?_ FC FG)
    simp [acOk, inB] <;> omega
  by_cases q1 : r = 1
  · subst q1
    go_wp2_with (go_at_call 71; refine (fun h : Hid _ => h.out) ?_)
    unfold Hid
    refine (spec_l01Below p _ _ HC1.out).mono ?_
    rintro e w2 ⟨a, rfl, a0, a1, hc2, hg2⟩
    have HB2 := Lib.hid (blk_grown HB1.out (by omega) hg2)
    have HG2 := Lib.hid (grown_trans HG1.out hg2)
    have HC2 := Lib.hid hc2
    clear hg2 hc2
    go_wp2_with (go_at_call 71; refine (fun h : Hid _ => h.out) ?_)
    unfold Hid
    refine (spec_l01Below p _ _ HC2.out).mono ?_
    rintro e w3 ⟨b, rfl, b0, b1, hc3, hg3⟩
    have HB3 := Lib.hid (blk_grown HB2.out (by omega) hg3)
    have HG3 := Lib.hid (grown_trans HG2.out hg3)
    have HC3 := Lib.hid hc3
    clear hg3 hc3
    have c0 : w3.cell? ⟨w.heap.size, 0, none⟩ = some (.int .i64 0) := HB3.out.cell 0
    have c1 : w3.cell? ⟨w.heap.size, 1, none⟩ = some (.int .i64 0) := HB3.out.cell 1
    have c2 : w3.cell? ⟨w.heap.size, 2, none⟩ = some (.int .i64 0) := HB3.out.cell 2
    have c3 : w3.cell? ⟨w.heap.size, 3, none⟩ = some (.int .i64 0) := HB3.out.cell 3
    have c4 : w3.cell? ⟨w.heap.size, 4, none⟩ = some (.int .i64 0) := HB3.out.cell 4
    have fz : ∀ o, w3.frozen? ⟨w.heap.size, o, none⟩ = false := fun o => HB3.out.free o
    go_wp2_with fail
    obtain ⟨WF, hWF⟩ : ∃ WF, WF = set5 w3 w.heap.size (.int .i64 (1)) (.int .i64 (a)) (.int .i64 (b)) (.int .i64 (0)) (.int .i64 (0)) := ⟨_, rfl⟩
    have FB := set5_blk HB3.out (.int .i64 (1)) (.int .i64 (a)) (.int .i64 (b)) (.int .i64 (0)) (.int .i64 (0))
    have FC := set5_cur HC3.out hp (.int .i64 (1)) (.int .i64 (a)) (.int .i64 (b)) (.int .i64 (0)) (.int .i64 (0))
    have FG := set5_grown HG3.out (Nat.le_refl _) (.int .i64 (1)) (.int .i64 (a)) (.int .i64 (b)) (.int .i64 (0)) (.int .i64 (0))
    rw [← hWF] at FB FC FG
    unfold set5 at hWF
    rw [← hWF]
    clear hWF c0 c1 c2 c3 c4 fz
    have y0 := FB.cell 0
    have y1 := FB.cell 1
    have y2 := FB.cell 2
    have y3 := FB.cell 3
    have y4 := FB.cell 4
    refine bodyPost_ret (v := .agg #[.int .i64 (1), .int .i64 (a), .int .i64 (b), .int .i64 (0), .int .i64 (0)]) (by simp [results, Tryz.results86, go_sem, y0, y1, y2, y3, y4]) rfl (drawnA ?_ FC FG)
    simp [acOk, inB] <;> omega
  by_cases q2 : r = 2
  · subst q2
    go_wp2_with (go_at_call 71; refine (fun h : Hid _ => h.out) ?_)
    unfold Hid
    refine (spec_l01Below p _ _ HC1.out).mono ?_
    rintro e w2 ⟨a, rfl, a0, a1, hc2, hg2⟩
    have HB2 := Lib.hid (blk_grown HB1.out (by omega) hg2)
    have HG2 := Lib.hid (grown_trans HG1.out hg2)
    have HC2 := Lib.hid hc2
    clear hg2 hc2
    have c0 : w2.cell? ⟨w.heap.size, 0, none⟩ = some (.int .i64 0) := HB2.out.cell 0
    have c1 : w2.cell? ⟨w.heap.size, 1, none⟩ = some (.int .i64 0) := HB2.out.cell 1
    have c2 : w2.cell? ⟨w.heap.size, 2, none⟩ = some (.int .i64 0) := HB2.out.cell 2
    have c3 : w2.cell? ⟨w.heap.size, 3, none⟩ = some (.int .i64 0) := HB2.out.cell 3
    have c4 : w2.cell? ⟨w.heap.size, 4, none⟩ = some (.int .i64 0) := HB2.out.cell 4
    have fz : ∀ o, w2.frozen? ⟨w.heap.size, o, none⟩ = false := fun o => HB2.out.free o
    go_wp2_with fail
    obtain ⟨WF, hWF⟩ : ∃ WF, WF = set5 w2 w.heap.size (.int .i64 (3)) (.int .i64 (1 + a)) (.int .i64 (0)) (.int .i64 (0)) (.int .i64 (0)) := ⟨_, rfl⟩
    have FB := set5_blk HB2.out (.int .i64 (3)) (.int .i64 (1 + a)) (.int .i64 (0)) (.int .i64 (0)) (.int .i64 (0))
    have FC := set5_cur HC2.out hp (.int .i64 (3)) (.int .i64 (1 + a)) (.int .i64 (0)) (.int .i64 (0)) (.int .i64 (0))
    have FG := set5_grown HG2.out (Nat.le_refl _) (.int .i64 (3)) (.int .i64 (1 + a)) (.int .i64 (0)) (.int .i64 (0)) (.int .i64 (0))
    rw [← hWF] at FB FC FG
    unfold set5 at hWF
    rw [← hWF]
    clear hWF c0 c1 c2 c3 c4 fz
    have y0 := FB.cell 0
    have y1 := FB.cell 1
    have y2 := FB.cell 2
    have y3 := FB.cell 3
    have y4 := FB.cell 4
    refine bodyPost_ret (v := .agg #[.int .i64 (3), .int .i64 (1 + a), .int .i64 (0), .int .i64 (0), .int .i64 (0)]) (by simp [results, Tryz.results86, go_sem, y0, y1, y2, y3, y4]) rfl (drawnA ?_ FC FG)
    simp [acOk, inB] <;> omega
  by_cases q3 : r = 3
  · subst q3
    have c0 : w1.cell? ⟨w.heap.size, 0, none⟩ = some (.int .i64 0) := HB1.out.cell 0
    have c1 : w1.cell? ⟨w.heap.size, 1, none⟩ = some (.int .i64 0) := HB1.out.cell 1
    have c2 : w1.cell? ⟨w.heap.size, 2, none⟩ = some (.int .i64 0) := HB1.out.cell 2
    have c3 : w1.cell? ⟨w.heap.size, 3, none⟩ = some (.int .i64 0) := HB1.out.cell 3
    have c4 : w1.cell? ⟨w.heap.size, 4, none⟩ = some (.int .i64 0) := HB1.out.cell 4
    have fz : ∀ o, w1.frozen? ⟨w.heap.size, o, none⟩ = false := fun o => HB1.out.free o
    go_wp2_with fail
    obtain ⟨WF, hWF⟩ : ∃ WF, WF = set5 w1 w.heap.size (.int .i64 (4)) (.int .i64 (0)) (.int .i64 (0)) (.int .i64 (0)) (.int .i64 (0)) := ⟨_, rfl⟩
    have FB := set5_blk HB1.out (.int .i64 (4)) (.int .i64 (0)) (.int .i64 (0)) (.int .i64 (0)) (.int .i64 (0))
    have FC := set5_cur HC1.out hp (.int .i64 (4)) (.int .i64 (0)) (.int .i64 (0)) (.int .i64 (0)) (.int .i64 (0))
    have FG := set5_grown HG1.out (Nat.le_refl _) (.int .i64 (4)) (.int .i64 (0)) (.int .i64 (0)) (.int .i64 (0)) (.int .i64 (0))
    rw [← hWF] at FB FC FG
    unfold set5 at hWF
    rw [← hWF]
    clear hWF c0 c1 c2 c3 c4 fz
    have y0 := FB.cell 0
    have y1 := FB.cell 1
    have y2 := FB.cell 2
    have y3 := FB.cell 3
    have y4 := FB.cell 4
    refine bodyPost_ret (v := .agg #[.int .i64 (4), .int .i64 (0), .int .i64 (0), .int .i64 (0), .int .i64 (0)]) (by simp [results, Tryz.results86, go_sem, y0, y1, y2, y3, y4]) rfl (drawnA ?_ FC FG)
    simp [acOk, inB] <;> omega
  by_cases q4 : r = 4
  · subst q4
    go_wp2_with (go_at_call 71; refine (fun h : Hid _ => h.out) ?_)
    unfold Hid
    refine (spec_l01Below p _ _ HC1.out).mono ?_
    rintro e w2 ⟨a, rfl, a0, a1, hc2, hg2⟩
    have HB2 := Lib.hid (blk_grown HB1.out (by omega) hg2)
    have HG2 := Lib.hid (grown_trans HG1.out hg2)
    have HC2 := Lib.hid hc2
    clear hg2 hc2
    have c0 : w2.cell? ⟨w.heap.size, 0, none⟩ = some (.int .i64 0) := HB2.out.cell 0
    have c1 : w2.cell? ⟨w.heap.size, 1, none⟩ = some (.int .i64 0) := HB2.out.cell 1
    have c2 : w2.cell? ⟨w.heap.size, 2, none⟩ = some (.int .i64 0) := HB2.out.cell 2
    have c3 : w2.cell? ⟨w.heap.size, 3, none⟩ = some (.int .i64 0) := HB2.out.cell 3
    have c4 : w2.cell? ⟨w.heap.size, 4, none⟩ = some (.int .i64 0) := HB2.out.cell 4
    have fz : ∀ o, w2.frozen? ⟨w.heap.size, o, none⟩ = false := fun o => HB2.out.free o
    go_wp2_with fail
    obtain ⟨WF, hWF⟩ : ∃ WF, WF = set5 w2 w.heap.size (.int .i64 (5)) (.int .i64 (a)) (.int .i64 (0)) (.int .i64 (0)) (.int .i64 (0)) := ⟨_, rfl⟩
    have FB := set5_blk HB2.out (.int .i64 (5)) (.int .i64 (a)) (.int .i64 (0)) (.int .i64 (0)) (.int .i64 (0))
    have FC := set5_cur HC2.out hp (.int .i64 (5)) (.int .i64 (a)) (.int .i64 (0)) (.int .i64 (0)) (.int .i64 (0))
    have FG := set5_grown HG2.out (Nat.le_refl _) (.int .i64 (5)) (.int .i64 (a)) (.int .i64 (0)) (.int .i64 (0)) (.int .i64 (0))
    rw [← hWF] at FB FC FG
    unfold set5 at hWF
    rw [← hWF]
    clear hWF c0 c1 c2 c3 c4 fz
    have y0 := FB.cell 0
    have y1 := FB.cell 1
    have y2 := FB.cell 2
    have y3 := FB.cell 3
    have y4 := FB.cell 4
    refine bodyPost_ret (v := .agg #[.int .i64 (5), .int .i64 (a), .int .i64 (0), .int .i64 (0), .int .i64 (0)]) (by simp [results, Tryz.results86, go_sem, y0, y1, y2, y3, y4]) rfl (drawnA ?_ FC FG)
    simp [acOk, inB] <;> omega
  have g0 : (r == 0) = false := beq_false_of_ne q0
  have g1 : (r == 1) = false := beq_false_of_ne q1
  have g2 : (r == 2) = false := beq_false_of_ne q2
  have g3 : (r == 3) = false := beq_false_of_ne q3
  have g4 : (r == 4) = false := beq_false_of_ne q4
  clear q0 q1 q2 q3 q4
  go_wp2_with (go_at_call 71; refine (fun h : Hid _ => h.out) ?_)
  unfold Hid
  refine (spec_l01Below p _ _ HC1.out).mono ?_
  rintro e w2 ⟨a, rfl, a0, a1, hc2, hg2⟩
  have HB2 := Lib.hid (blk_grown HB1.out (by omega) hg2)
  have HG2 := Lib.hid (grown_trans HG1.out hg2)
  have HC2 := Lib.hid hc2
  clear hg2 hc2
  go_wp2_with (go_at_call 71; refine (fun h : Hid _ => h.out) ?_)
  unfold Hid
  refine (spec_l01Below p _ _ HC2.out).mono ?_
  rintro e w3 ⟨b, rfl, b0, b1, hc3, hg3⟩
  have HB3 := Lib.hid (blk_grown HB2.out (by omega) hg3)
  have HG3 := Lib.hid (grown_trans HG2.out hg3)
  have HC3 := Lib.hid hc3
  clear hg3 hc3
  go_wp2_with (go_at_call 71; refine (fun h : Hid _ => h.out) ?_)
  unfold Hid
  refine (spec_l01Below p _ _ HC3.out).mono ?_
  rintro e w4 ⟨c, rfl, c0, c1, hc4, hg4⟩
  have HB4 := Lib.hid (blk_grown HB3.out (by omega) hg4)
  have HG4 := Lib.hid (grown_trans HG3.out hg4)
  have HC4 := Lib.hid hc4
  clear hg4 hc4
  go_wp2_with (go_at_call 71; refine (fun h : Hid _ => h.out) ?_)
  unfold Hid
  refine (spec_l01Below p _ _ HC4.out).mono ?_
  rintro e w5 ⟨d, rfl, d0, d1, hc5, hg5⟩
  have HB5 := Lib.hid (blk_grown HB4.out (by omega) hg5)
  have HG5 := Lib.hid (grown_trans HG4.out hg5)
  have HC5 := Lib.hid hc5
  clear hg5 hc5
  have c0 : w5.cell? ⟨w.heap.size, 0, none⟩ = some (.int .i64 0) := HB5.out.cell 0
  have c1 : w5.cell? ⟨w.heap.size, 1, none⟩ = some (.int .i64 0) := HB5.out.cell 1
  have c2 : w5.cell? ⟨w.heap.size, 2, none⟩ = some (.int .i64 0) := HB5.out.cell 2
  have c3 : w5.cell? ⟨w.heap.size, 3, none⟩ = some (.int .i64 0) := HB5.out.cell 3
  have c4 : w5.cell? ⟨w.heap.size, 4, none⟩ = some (.int .i64 0) := HB5.out.cell 4
  have fz : ∀ o, w5.frozen? ⟨w.heap.size, o, none⟩ = false := fun o => HB5.out.free o
  go_wp2_with fail
  obtain ⟨WF, hWF⟩ : ∃ WF, WF = set5 w5 w.heap.size (.int .i64 (2)) (.int .i64 (a)) (.int .i64 (b)) (.int .i64 (c)) (.int .i64 (d)) := ⟨_, rfl⟩
  have FB := set5_blk HB5.out (.int .i64 (2)) (.int .i64 (a)) (.int .i64 (b)) (.int .i64 (c)) (.int .i64 (d))
  have FC := set5_cur HC5.out hp (.int .i64 (2)) (.int .i64 (a)) (.int .i64 (b)) (.int .i64 (c)) (.int .i64 (d))
  have FG := set5_grown HG5.out (Nat.le_refl _) (.int .i64 (2)) (.int .i64 (a)) (.int .i64 (b)) (.int .i64 (c)) (.int .i64 (d))
  rw [← hWF] at FB FC FG
  unfold set5 at hWF
  rw [← hWF]
  clear hWF c0 c1 c2 c3 c4 fz
  have y0 := FB.cell 0
  have y1 := FB.cell 1
  have y2 := FB.cell 2
  have y3 := FB.cell 3
  have y4 := FB.cell 4
  refine bodyPost_ret (v := .agg #[.int .i64 (2), .int .i64 (a), .int .i64 (b), .int .i64 (c), .int .i64 (d)]) (by simp [results, Tryz.results86, go_sem, y0, y1, y2, y3, y4]) rfl (drawnA ?_ FC FG)
  simp [acOk, inB] <;> omega
end Go.Proofs.YtfmifllcbbfpoaaGreatDoor
/- The drawing of a list of acts; no condition but what stands at each theorem. -/
namespace Go.Proofs.YtfmifllcbbfpoaaGreatDoor
set_option linter.unusedSimpArgs false
set_option linter.unusedVariables false
open Go.RowKit Go.Sort
theorem ei_ActD : EI Tryz.prog 31 37 5 := ei_of Tryz.underlying31 (by omega) (by kernel_rfl)
theorem one_GActD (x : GAct) : ∀ u ∈ x.enc, u.oneCell' = true := by
  intro u hu
  simp [GAct.enc] at hu
  rcases hu with rfl | rfl | rfl | rfl | rfl <;> rfl
/-- Valid acts have been drawn, a row of the call's own. -/
def DrawnActs (p : Nat) (w : World) (e : Ending) (w' : World) : Prop := ∃ (v : Value) (xs : List GAct), e = .returned v ∧ w'.ownsRow w.heap.size 37 5 v xs.length (xs.flatMap GAct.enc) ∧ xs.length ≤ 21 ∧ (∀ x ∈ xs, acOk x = true) ∧ Cur w' p ∧ w.grownBy w' (some p)
set_option maxRecDepth 100000 in
set_option maxHeartbeats 2000000 in
theorem spec_l39List (p : Nat) (w : World) (hc : Cur w p) : Calls Tryz.prog 41 #[.pointer (some ⟨p, 0, none⟩)] w (DrawnActs p w) := by
  have hp := hc.lt
  obtain ⟨wa, hwa⟩ : ∃ wa, wa = w.alloc (.cells #[] 37) := ⟨_, rfl⟩
  have hca : Cur wa p := by rw [hwa]; exact cur_alloc hc _
  have hga : w.grownBy wa (some p) := by rw [hwa]; exact grown_alloc (grown_refl _ _) _
  have hoa : wa.ownsRow w.heap.size 37 5 (.slice (some ⟨w.heap.size, 0, none⟩) 0 0) 0 (([] : List GAct).flatMap GAct.enc) := by rw [hwa]; exact own_empty w w.heap.size 37 5 (Nat.le_refl _)
  have Hwa := Lib.hid hwa
  have HOa := Lib.hid hoa
  have HGa := Lib.hid hga
  have cA := Lib.hid (spec_l01Below p 22 wa hca)
  clear hwa hoa hga hca hc
  go_enter Tryz.func41, Tryz.ntmps41
  go_wp2_with (go_at_call 71; refine (fun h : Hid _ => h.out) ?_)
  unfold Hid
  rw [← Hwa.out]
  refine cA.out.mono ?_
  rintro e w2 ⟨q, rfl, hq0, hq1, hc2, hg2⟩
  have HO2 := Lib.hid (own_grown HOa.out hp hg2)
  have HG2 := Lib.hid (grown_trans HGa.out hg2)
  have HC2 := Lib.hid hc2
  obtain ⟨n, rfl⟩ := Int.eq_ofNat_of_zero_le hq0
  have hn21 : n ≤ 21 := by omega
  clear hg2 hc2 hq0 hq1 cA
  go_wp2_with fail
  go_loopw [3, 5] (fun ov iv wr => ∃ (k : Nat) (L : List GAct), k ≤ n ∧ iv = .int .i64 k ∧ Hid (L.length = k) ∧ Hid (∀ x ∈ L, acOk x = true) ∧ Hid (wr.ownsRow w.heap.size 37 5 ov L.length (L.flatMap GAct.enc)) ∧ Hid (Cur wr p) ∧ Hid (w.grownBy wr (some p))) (fun _ iv _ => n - (intOf iv).toNat)
  case atStart => exact ⟨0, [], by omega, rfl, Lib.hid rfl, Lib.hid (fun x hx => by cases hx), HO2, HC2, HG2⟩
  case round =>
    obtain ⟨k, L, hk, rfl, hLk, hLm, hown, hcr, hgr⟩ := hrel
    by_cases hlt : k < n
    · go_wp2_with (go_at_call 86; refine (fun h : Hid _ => h.out) ?_)
      unfold Hid
      refine (spec_l39Act p _ hcr.out).mono ?_
      rintro e w5 ⟨a, rfl, hok, hc5, hg5⟩
      obtain ⟨w4, hw4⟩ : ∃ w4, w4 = w5.alloc (.cells #[.int .i64 a.k, .int .i64 a.a, .int .i64 a.b, .int .i64 a.c, .int .i64 a.d] 37) := ⟨_, rfl⟩
      have he4 : Ext w5 w4 := by rw [hw4]; exact (Ext.refl _).alloc _
      have HO5 := Lib.hid (own_keep (own_grown hown.out hp hg5) he4)
      have HG5 : Hid (w.grownBy w4 (some p)) := Lib.hid (by rw [hw4]; exact grown_alloc (grown_trans hgr.out hg5) _)
      have HC5 : Hid (Cur w4 p) := Lib.hid (by rw [hw4]; exact cur_alloc hc5 _)
      have HW4 := Lib.hid hw4
      have HOK := Lib.hid hok
      have hsz : w.heap.size ≤ w4.heap.size := HG5.out.size
      have hLl : L.length ≤ 21 := by have := hLk.out; omega
      clear hg5 hc5 hok hw4 he4
      go_wp2_with (at_builtin; refine (fun h : Hid _ => h.out) ?_)
      unfold Hid
      rw [← HW4.out]
      refine append1g ei_ActD rfl _ _ rfl w.heap.size w4 _ _ L.length _ (by rfl) HO5.out a.enc (by rw [HW4.out, heap_size_allocN]; rfl) rfl (one_GActD a) (by omega) hsz ?_
      intro v6 w6 row ho6 hg6 hr6
      have HO6 := Lib.hid ho6
      have HC6 := Lib.hid (cur_grown HC5.out hg6 (fun q hq => by have := hr6 q hq; omega))
      have HG6 := Lib.hid (grown_over HG5.out hg6 (fun q hq => hr6 q hq))
      clear ho6 hg6 hr6
      go_wp2_with fail
      go_roundw
      case rel => exact ⟨k + 1, L ++ [a], by omega, by go_num, Lib.hid (by have := hLk.out; simp; omega), Lib.hid (fun x hx => by
        rcases List.mem_append.1 hx with hx | hx
        · exact hLm.out x hx
        · rw [List.mem_singleton] at hx; subst hx; exact HOK.out), by unfold Hid; rw [List.length_append, List.flatMap_append]; simpa using HO6.out, HC6, HG6⟩
      case measure => simp [intOf] <;> omega
    · go_wp2_with fail
      go_ret
      exact ⟨_, L, rfl, hown.out, by have := hLk.out; omega, hLm.out, hcr.out, hgr.out⟩
end Go.Proofs.YtfmifllcbbfpoaaGreatDoor
