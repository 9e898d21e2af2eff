/- The walk of the law on SampleMuseum; no condition. -/
import Derived.Test.YtkelmeemblmggaaSN8
import Derived.Test.YtkelmeemblmggaaNM1
namespace Go.Proofs.Ytkelmeemblmggaa
set_option linter.unusedSimpArgs false
set_option linter.unusedVariables false
open Go.RowKit Go.Sort
theorem newM_lens (H : Int) (ds : List GDoor) (fs gs : List Int) : (newM H ds fs gs).ds.length ≤ ds.length ∧ (newM H ds fs gs).fs.length ≤ fs.length ∧ (newM H ds fs gs).ps.length ≤ fs.length ∧ (newM H ds fs gs).gs.length ≤ gs.length ∧ (newM H ds fs gs).rs.length ≤ 0 := by
  unfold newM
  split
  · exact ⟨by simp [rawM], by simp [rawM], by simp [rawM], by simp [rawM], by simp [rawM]⟩
  · exact ⟨by simp, by simp, by simp, by simp, by simp⟩
theorem sample_fit {w : World} {base : Nat} {v : MV} (h : MOwn w base v sampleM) : MFit v := by
  obtain ⟨a1, a2, a3, a4, a5⟩ := h.rd.lens
  obtain ⟨b1, b2, b3, b4, b5⟩ : sampleM.ds.length ≤ 4 ∧ sampleM.fs.length ≤ 2 ∧ sampleM.ps.length ≤ 2 ∧ sampleM.gs.length ≤ 3 ∧ sampleM.rs.length ≤ 0 := newM_lens _ _ _ _
  exact MFit.of_own h (by omega) (by omega) (by omega) (by omega) (by omega)
set_option maxRecDepth 100000 in
set_option maxHeartbeats 8000000 in
theorem law_SampleMuseum (w : World) : Calls Try.prog 3 #[] w fun e w' => e = .returned (.bool true) ∧ Ext w w' := by
  have cS := Lib.hid (fun W => spec_SampleMuseum W)
  have cI := Lib.hid (fun W => impl_SampleMuseum W)
  have hNN := Lib.hid (fun v : MV => markEnd_nn (v := v))
  have E := Lib.hid (Ext.refl w)
  go_enter Try.func3, Try.ntmps3
  go_wp2_with (go_at_call 7; refine (fun h : Hid _ => h.out) ?_)
  unfold Hid
  refine (cS.out _).mono ?_
  rintro e w1 ⟨vW, hev, h1, o1⟩
  obtain ⟨HW, ⟨AW0, nW0, kW0⟩, ⟨AW1, nW1, kW1⟩, ⟨AW2, nW2, kW2⟩, ⟨AW3, nW3, kW3⟩, dW, ⟨AW4, nW4, kW4⟩⟩ := vW
  simp only [MV.val, MV.cells] at hev
  subst hev
  have E := Lib.hid (E.out.trans h1)
  have FW := Lib.hid (sample_fit o1)
  have OW := Lib.hid o1
  have MW := Lib.hid (MAt.of_own o1)
  have z1 : w.heap.size ≤ w1.heap.size := h1.size
  clear h1 o1
  obtain ⟨w2, hw2⟩ : ∃ w2, w2 = w1.alloc (.cells #[.int .i64 HW, .slice AW0 nW0 kW0, .slice AW1 nW1 kW1, .slice AW2 nW2 kW2, .slice AW3 nW3 kW3, .int .i64 dW, .slice AW4 nW4 kW4] 28) := ⟨_, rfl⟩
  have BW := Lib.hid (MBox.new (v := (⟨HW, ⟨AW0, nW0, kW0⟩, ⟨AW1, nW1, kW1⟩, ⟨AW2, nW2, kW2⟩, ⟨AW3, nW3, kW3⟩, dW, ⟨AW4, nW4, kW4⟩⟩ : MV)) hw2)
  have hk2 : Ext w1 w2 := by rw [hw2]; exact (Ext.refl _).alloc _
  have E := Lib.hid (E.out.trans hk2)
  have OW := Lib.hid (OW.out.keep hk2)
  have HW2 := Lib.hid hw2
  have z2 : w1.heap.size < w2.heap.size := BW.out.lt
  clear hk2 hw2
  go_wp2_with (go_at_call 8; refine (fun h : Hid _ => h.out) ?_)
  unfold Hid
  rw [← HW2.out]
  refine (cI.out _).mono ?_
  rintro e w3 ⟨vG, hev, h3, o3⟩
  obtain ⟨HG, ⟨AG0, nG0, kG0⟩, ⟨AG1, nG1, kG1⟩, ⟨AG2, nG2, kG2⟩, ⟨AG3, nG3, kG3⟩, dG, ⟨AG4, nG4, kG4⟩⟩ := vG
  simp only [MV.val, MV.cells] at hev
  subst hev
  have E := Lib.hid (E.out.trans h3)
  have OW := Lib.hid (OW.out.keep h3)
  have BW := Lib.hid (BW.out.keep h3)
  have FG := Lib.hid (sample_fit o3)
  have OG := Lib.hid o3
  have MG := Lib.hid (MAt.of_own o3)
  have z3 : w2.heap.size ≤ w3.heap.size := h3.size
  clear h3 o3
  obtain ⟨w4, hw4⟩ : ∃ w4, w4 = w3.alloc (.cells #[.int .i64 HG, .slice AG0 nG0 kG0, .slice AG1 nG1 kG1, .slice AG2 nG2 kG2, .slice AG3 nG3 kG3, .int .i64 dG, .slice AG4 nG4 kG4] 28) := ⟨_, rfl⟩
  have BG := Lib.hid (MBox.new (v := (⟨HG, ⟨AG0, nG0, kG0⟩, ⟨AG1, nG1, kG1⟩, ⟨AG2, nG2, kG2⟩, ⟨AG3, nG3, kG3⟩, dG, ⟨AG4, nG4, kG4⟩⟩ : MV)) hw4)
  have hk4 : Ext w3 w4 := by rw [hw4]; exact (Ext.refl _).alloc _
  have E := Lib.hid (E.out.trans hk4)
  have OW := Lib.hid (OW.out.keep hk4)
  have BW := Lib.hid (BW.out.keep hk4)
  have OG := Lib.hid (OG.out.keep hk4)
  have HW4 := Lib.hid hw4
  have z4 : w3.heap.size < w4.heap.size := BG.out.lt
  clear hk4 hw4
  obtain ⟨b0, b1, b2, b3, b4, b5, b6⟩ := BG.out.cell
  simp only at b0 b1 b2 b3 b4 b5 b6
  obtain ⟨y0, y1, y2, y3, y4, y5, y6⟩ := BW.out.cell
  simp only at y0 y1 y2 y3 y4 y5 y6
  rw [HW4.out] at b0 b1 b2 b3 b4 b5 b6 y0 y1 y2 y3 y4 y5 y6
  go_wp2_with (go_at_call 9; refine (fun h : Hid _ => h.out) ?_)
  unfold Hid
  rw [← HW4.out]
  refine (laws_eqMuseum (⟨HG, ⟨AG0, nG0, kG0⟩, ⟨AG1, nG1, kG1⟩, ⟨AG2, nG2, kG2⟩, ⟨AG3, nG3, kG3⟩, dG, ⟨AG4, nG4, kG4⟩⟩ : MV) (⟨HW, ⟨AW0, nW0, kW0⟩, ⟨AW1, nW1, kW1⟩, ⟨AW2, nW2, kW2⟩, ⟨AW3, nW3, kW3⟩, dW, ⟨AW4, nW4, kW4⟩⟩ : MV) sampleM w4 OG.out.rd OW.out.rd).mono ?_
  rintro e w5 ⟨rfl, h5⟩
  have E := Lib.hid (E.out.trans h5)
  have OW := Lib.hid (OW.out.keep h5)
  have BW := Lib.hid (BW.out.keep h5)
  have OG := Lib.hid (OG.out.keep h5)
  have BG := Lib.hid (BG.out.keep h5)
  have z5 : w4.heap.size ≤ w5.heap.size := h5.size
  clear h5
  clear b0 b1 b2 b3 b4 b5 b6 y0 y1 y2 y3 y4 y5 y6
  obtain ⟨b0, b1, b2, b3, b4, b5, b6⟩ := BG.out.cell
  simp only at b0 b1 b2 b3 b4 b5 b6
  go_wp2_with (go_at_call 10; refine (fun h : Hid _ => h.out) ?_)
  unfold Hid
  obtain ⟨kg, hkg⟩ : ∃ z, z = markEnd 1 (⟨HG, ⟨AG0, nG0, kG0⟩, ⟨AG1, nG1, kG1⟩, ⟨AG2, nG2, kG2⟩, ⟨AG3, nG3, kG3⟩, dG, ⟨AG4, nG4, kG4⟩⟩ : MV) := ⟨_, rfl⟩
  have nkg : ¬ kg < 0 := by rw [hkg]; exact markEnd_nn
  refine (laws_markMuseum (⟨HG, ⟨AG0, nG0, kG0⟩, ⟨AG1, nG1, kG1⟩, ⟨AG2, nG2, kG2⟩, ⟨AG3, nG3, kG3⟩, dG, ⟨AG4, nG4, kG4⟩⟩ : MV) sampleM 1 w2.heap.size w3.heap.size w5 OG.out MG.out FG.out (by omega) (by omega) (by omega)).mono ?_
  rintro e w6 ⟨he, o6, k6⟩
  rw [← hkg] at he
  subst he
  have E := Lib.hid (k6.ext E.out (by omega))
  have z6 : w5.heap.size ≤ w6.heap.size := k6.size
  clear b0 b1 b2 b3 b4 b5 b6
  have BW := Lib.hid (BW.out.out k6 (.inl (by omega)))
  have BG := Lib.hid (BG.out.out k6 (.inr (by omega)))
  have OW := Lib.hid (OW.out.below k6 (MW.out.mono (Nat.le_refl _) (by omega)))
  have OM := Lib.hid o6
  have HKG := Lib.hid hkg
  clear k6 o6 OG hkg
  obtain ⟨b0, b1, b2, b3, b4, b5, b6⟩ := BG.out.cell
  simp only at b0 b1 b2 b3 b4 b5 b6
  go_wp2_with (go_at_call 11; refine (fun h : Hid _ => h.out) ?_)
  unfold Hid
  refine (laws_heldMuseum (⟨HG, ⟨AG0, nG0, kG0⟩, ⟨AG1, nG1, kG1⟩, ⟨AG2, nG2, kG2⟩, ⟨AG3, nG3, kG3⟩, dG, ⟨AG4, nG4, kG4⟩⟩ : MV) sampleM 1 w6 OM.out.rd FG.out (by omega) (by omega)).mono ?_
  rintro e w7 ⟨he, h7⟩
  rw [← HKG.out] at he
  subst he
  have E := Lib.hid (E.out.trans h7)
  have BW := Lib.hid (BW.out.keep h7)
  have BG := Lib.hid (BG.out.keep h7)
  have OW := Lib.hid (OW.out.keep h7)
  have OM := Lib.hid (OM.out.keep h7)
  have z7 : w6.heap.size ≤ w7.heap.size := h7.size
  clear h7
  clear b0 b1 b2 b3 b4 b5 b6
  go_wp2_with (go_at_call 8; refine (fun h : Hid _ => h.out) ?_)
  unfold Hid
  refine (cI.out _).mono ?_
  rintro e w8 ⟨vU, hev, h8, o8⟩
  obtain ⟨HU, ⟨AU0, nU0, kU0⟩, ⟨AU1, nU1, kU1⟩, ⟨AU2, nU2, kU2⟩, ⟨AU3, nU3, kU3⟩, dU, ⟨AU4, nU4, kU4⟩⟩ := vU
  simp only [MV.val, MV.cells] at hev
  subst hev
  have E := Lib.hid (E.out.trans h8)
  have BW := Lib.hid (BW.out.keep h8)
  have BG := Lib.hid (BG.out.keep h8)
  have OW := Lib.hid (OW.out.keep h8)
  have OM := Lib.hid (OM.out.keep h8)
  have FU := Lib.hid (sample_fit o8)
  have OU := Lib.hid o8
  have MU := Lib.hid (MAt.of_own o8)
  have z8 : w7.heap.size ≤ w8.heap.size := h8.size
  clear h8 o8
  obtain ⟨w9, hw9⟩ : ∃ w9, w9 = w8.alloc (.cells #[.int .i64 HU, .slice AU0 nU0 kU0, .slice AU1 nU1 kU1, .slice AU2 nU2 kU2, .slice AU3 nU3 kU3, .int .i64 dU, .slice AU4 nU4 kU4] 28) := ⟨_, rfl⟩
  have BU := Lib.hid (MBox.new (v := (⟨HU, ⟨AU0, nU0, kU0⟩, ⟨AU1, nU1, kU1⟩, ⟨AU2, nU2, kU2⟩, ⟨AU3, nU3, kU3⟩, dU, ⟨AU4, nU4, kU4⟩⟩ : MV)) hw9)
  have hk9 : Ext w8 w9 := by rw [hw9]; exact (Ext.refl _).alloc _
  have E := Lib.hid (E.out.trans hk9)
  have BW := Lib.hid (BW.out.keep hk9)
  have BG := Lib.hid (BG.out.keep hk9)
  have OW := Lib.hid (OW.out.keep hk9)
  have OM := Lib.hid (OM.out.keep hk9)
  have OU := Lib.hid (OU.out.keep hk9)
  have HW9 := Lib.hid hw9
  have z9 : w8.heap.size < w9.heap.size := BU.out.lt
  clear hk9 hw9
  obtain ⟨b0, b1, b2, b3, b4, b5, b6⟩ := BU.out.cell
  simp only at b0 b1 b2 b3 b4 b5 b6
  obtain ⟨y0, y1, y2, y3, y4, y5, y6⟩ := BW.out.cell
  simp only at y0 y1 y2 y3 y4 y5 y6
  rw [HW9.out] at b0 b1 b2 b3 b4 b5 b6 y0 y1 y2 y3 y4 y5 y6
  go_wp2_with (go_at_call 9; refine (fun h : Hid _ => h.out) ?_)
  unfold Hid
  rw [← HW9.out]
  refine (laws_eqMuseum (⟨HU, ⟨AU0, nU0, kU0⟩, ⟨AU1, nU1, kU1⟩, ⟨AU2, nU2, kU2⟩, ⟨AU3, nU3, kU3⟩, dU, ⟨AU4, nU4, kU4⟩⟩ : MV) (⟨HW, ⟨AW0, nW0, kW0⟩, ⟨AW1, nW1, kW1⟩, ⟨AW2, nW2, kW2⟩, ⟨AW3, nW3, kW3⟩, dW, ⟨AW4, nW4, kW4⟩⟩ : MV) sampleM w9 OU.out.rd OW.out.rd).mono ?_
  rintro e w10 ⟨rfl, h10⟩
  have E := Lib.hid (E.out.trans h10)
  have BW := Lib.hid (BW.out.keep h10)
  have BG := Lib.hid (BG.out.keep h10)
  have OW := Lib.hid (OW.out.keep h10)
  have OM := Lib.hid (OM.out.keep h10)
  have OU := Lib.hid (OU.out.keep h10)
  have BU := Lib.hid (BU.out.keep h10)
  have z10 : w9.heap.size ≤ w10.heap.size := h10.size
  clear h10
  clear b0 b1 b2 b3 b4 b5 b6 y0 y1 y2 y3 y4 y5 y6
  obtain ⟨b0, b1, b2, b3, b4, b5, b6⟩ := BG.out.cell
  simp only at b0 b1 b2 b3 b4 b5 b6
  go_wp2_with (go_at_call 11; refine (fun h : Hid _ => h.out) ?_)
  unfold Hid
  refine (laws_heldMuseum (⟨HG, ⟨AG0, nG0, kG0⟩, ⟨AG1, nG1, kG1⟩, ⟨AG2, nG2, kG2⟩, ⟨AG3, nG3, kG3⟩, dG, ⟨AG4, nG4, kG4⟩⟩ : MV) sampleM 1 w10 OM.out.rd FG.out (by omega) (by omega)).mono ?_
  rintro e w11 ⟨he, h11⟩
  rw [← HKG.out] at he
  subst he
  have E := Lib.hid (E.out.trans h11)
  have BW := Lib.hid (BW.out.keep h11)
  have BG := Lib.hid (BG.out.keep h11)
  have OW := Lib.hid (OW.out.keep h11)
  have OM := Lib.hid (OM.out.keep h11)
  have OU := Lib.hid (OU.out.keep h11)
  have BU := Lib.hid (BU.out.keep h11)
  have z11 : w10.heap.size ≤ w11.heap.size := h11.size
  clear h11
  clear b0 b1 b2 b3 b4 b5 b6
  go_wp2_with fail
  go_ret
  exact ⟨rfl, E.out⟩
end Go.Proofs.Ytkelmeemblmggaa
