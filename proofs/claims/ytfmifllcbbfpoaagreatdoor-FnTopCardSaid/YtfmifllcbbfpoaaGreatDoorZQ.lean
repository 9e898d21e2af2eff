/- Texts of one proof, laid one behind the other (SP7); no condition but what stands at each theorem. -/
import Derived.Test.YtfmifllcbbfpoaaGreatDoorZJ
/- Contract of the reference's DoAct; no condition but what stands at each theorem. -/
namespace Go.Proofs.YtfmifllcbbfpoaaGreatDoor
set_option linter.unusedSimpArgs false
set_option linter.unusedVariables false
open Go.RowKit Go.Sort
theorem spec_l39Bool (b : Bool) (w : World) : Calls Tryz.prog 51 #[.bool b] w fun e w' => e = .returned (.int .i64 (b01 b)) ∧ w = w' := by
  cases b
  all_goals
    go_enter Tryz.func51, Tryz.ntmps51
    go_wp2
    go_ret
    exact ⟨rfl, rfl⟩
set_option maxRecDepth 100000 in
set_option maxHeartbeats 8000000 in
theorem spec_DoAct (v : MV) (m : GMuseum) (a : GAct) (w : World) (hx : MRd w v m) (hf : MFit v) : Calls Tryz.prog 12 #[v.val, .agg #[.int .i64 a.k, .int .i64 a.a, .int .i64 a.b, .int .i64 a.c, .int .i64 a.d]] w (MPost (actM m a) (.int .i64 (actN m a)) w) := by
  obtain ⟨wb, hwb⟩ : ∃ wb, wb = w.alloc (.cells v.cells 30) := ⟨_, rfl⟩
  have hbx := MBox.new hwb
  have hE : Ext w wb := by rw [hwb]; exact (Ext.refl w).alloc _
  obtain ⟨wm, hwm⟩ : ∃ wm, wm = wb.alloc (.cells #[.int .i64 a.k, .int .i64 a.a, .int .i64 a.b, .int .i64 a.c, .int .i64 a.d] 37) := ⟨_, rfl⟩
  have hEm : Ext wb wm := by rw [hwm]; exact (Ext.refl wb).alloc _
  obtain ⟨wz, hwz⟩ : ∃ wz, wz = wm.alloc (.cells #[.int .i64 0, .slice none 0 0, .slice none 0 0, .slice none 0 0, .slice none 0 0, .int .i64 0, .slice none 0 0] 30) := ⟨_, rfl⟩
  have hEz : Ext wm wz := by rw [hwz]; exact (Ext.refl wm).alloc _
  have hsb : wb.heap.size = w.heap.size + 1 := by rw [hwb]; simp
  have hsm : wm.heap.size = w.heap.size + 1 + 1 := by rw [hwm]; simp [hsb]
  have hsz : wz.heap.size = w.heap.size + 1 + 1 + 1 := by rw [hwz]; simp [hsm]
  have HBz : Hid (Blk wz (w.heap.size + 1 + 1) 30 #[.int .i64 0, .slice none 0 0, .slice none 0 0, .slice none 0 0, .slice none 0 0, .int .i64 0, .slice none 0 0]) := Lib.hid (by rw [hwz, ← hsm]; exact Blk.new _ _ _)
  have HBm : Hid (Blk wz (w.heap.size + 1) 37 #[.int .i64 a.k, .int .i64 a.a, .int .i64 a.b, .int .i64 a.c, .int .i64 a.d]) := Lib.hid (by refine Blk.keep ?_ hEz; rw [hwm, ← hsb]; exact Blk.new _ _ _)
  have hE2 := hEm.trans hEz
  have HX := Lib.hid (hx.keep (hE.trans hE2))
  have HB := Lib.hid (hbx.keep hE2)
  have HE := Lib.hid (hE.trans hE2)
  have cC := Lib.hid (spec_l38Copy v m wz HX.out hf)
  obtain ⟨Hh, ⟨A0, n0, c0⟩, ⟨A1, n1, c1⟩, ⟨A2, n2, c2⟩, ⟨A3, n3, c3⟩, day, ⟨A4, n4, c4⟩⟩ := v
  have hH : Hh = m.H := hx.eH
  subst hH
  have Hwz : Hid (wz = ((w.alloc (.cells #[.int .i64 m.H, .slice A0 n0 c0, .slice A1 n1 c1, .slice A2 n2 c2, .slice A3 n3 c3, .int .i64 m.d, .slice A4 n4 c4] 30)).alloc (.cells #[.int .i64 a.k, .int .i64 a.a, .int .i64 a.b, .int .i64 a.c, .int .i64 a.d] 37)).alloc (.cells #[.int .i64 0, .slice none 0 0, .slice none 0 0, .slice none 0 0, .slice none 0 0, .int .i64 0, .slice none 0 0] 30)) := Lib.hid (by rw [hwz, hwm, hwb, ← hx.ed]; rfl)
  have hday : day = m.d := hx.ed
  subst hday
  have hrp : Hid (Rd wz 1 A2 n2 (m.ps.flatMap ienc)) := HX.out.rp
  have hrw : Hid (Rd w 1 A2 n2 (m.ps.flatMap ienc)) := hx.rp
  have hlp := Lib.hid (hrp.out.len ienc_len (by omega))
  obtain ⟨gv, hgv⟩ : ∃ x, x = guardB m a.a a.b := ⟨_, rfl⟩
  obtain ⟨nv, hnv⟩ : ∃ x, x = nightB m ⟨a.a, a.b, a.c, a.d⟩ := ⟨_, rfl⟩
  obtain ⟨dv, hdv⟩ : ∃ x, x = daysB m a.a := ⟨_, rfl⟩
  obtain ⟨av, hav⟩ : ∃ x, x = auditB m := ⟨_, rfl⟩
  have CM : Hid (∀ W, Ext wz W → Calls Tryz.prog 45 #[.agg #[.int .i64 m.H, .slice A0 n0 c0, .slice A1 n1 c1, .slice A2 n2 c2, .slice A3 n3 c3, .int .i64 m.d, .slice A4 n4 c4]] W fun e w' => e = .returned (.bool (museumB m)) ∧ Ext W w') := Lib.hid fun W he => spec_MuseumOk (⟨m.H, ⟨A0, n0, c0⟩, ⟨A1, n1, c1⟩, ⟨A2, n2, c2⟩, ⟨A3, n3, c3⟩, m.d, ⟨A4, n4, c4⟩⟩ : MV) m W (HX.out.keep he)
  have CA := Lib.hid (fun W => spec_ActOk a W)
  have CG : Hid (∀ W, Ext wz W → Calls Tryz.prog 47 #[.agg #[.int .i64 m.H, .slice A0 n0 c0, .slice A1 n1 c1, .slice A2 n2 c2, .slice A3 n3 c3, .int .i64 m.d, .slice A4 n4 c4], .int .i64 a.a, .int .i64 a.b] W (MPost (guardM m a.a a.b) (.bool gv) W)) := Lib.hid fun W he => by rw [hgv]; exact spec_GuardWalk (⟨m.H, ⟨A0, n0, c0⟩, ⟨A1, n1, c1⟩, ⟨A2, n2, c2⟩, ⟨A3, n3, c3⟩, m.d, ⟨A4, n4, c4⟩⟩ : MV) m a.a a.b W (HX.out.keep he) hf
  have CN : Hid (∀ W, Ext wz W → Calls Tryz.prog 48 #[.agg #[.int .i64 m.H, .slice A0 n0 c0, .slice A1 n1 c1, .slice A2 n2 c2, .slice A3 n3 c3, .int .i64 m.d, .slice A4 n4 c4], .agg #[.int .i64 a.a, .int .i64 a.b, .int .i64 a.c, .int .i64 a.d]] W (MPost (nightM m ⟨a.a, a.b, a.c, a.d⟩) (.bool nv) W)) := Lib.hid fun W he => by rw [hnv]; exact spec_NightMove (⟨m.H, ⟨A0, n0, c0⟩, ⟨A1, n1, c1⟩, ⟨A2, n2, c2⟩, ⟨A3, n3, c3⟩, m.d, ⟨A4, n4, c4⟩⟩ : MV) m ⟨a.a, a.b, a.c, a.d⟩ W (HX.out.keep he) hf
  have CD : Hid (∀ W, Ext wz W → Calls Tryz.prog 49 #[.agg #[.int .i64 m.H, .slice A0 n0 c0, .slice A1 n1 c1, .slice A2 n2 c2, .slice A3 n3 c3, .int .i64 m.d, .slice A4 n4 c4], .int .i64 a.a] W (MPost (daysM m a.a) (.bool dv) W)) := Lib.hid fun W he => by rw [hdv]; exact spec_NextDays (⟨m.H, ⟨A0, n0, c0⟩, ⟨A1, n1, c1⟩, ⟨A2, n2, c2⟩, ⟨A3, n3, c3⟩, m.d, ⟨A4, n4, c4⟩⟩ : MV) m a.a W (HX.out.keep he) hf
  have CU : Hid (∀ W, Ext wz W → Calls Tryz.prog 50 #[.agg #[.int .i64 m.H, .slice A0 n0 c0, .slice A1 n1 c1, .slice A2 n2 c2, .slice A3 n3 c3, .int .i64 m.d, .slice A4 n4 c4]] W fun e w' => e = .returned (.bool av) ∧ Ext W w') := Lib.hid fun W he => by rw [hav]; exact spec_AuditMuseum (⟨m.H, ⟨A0, n0, c0⟩, ⟨A1, n1, c1⟩, ⟨A2, n2, c2⟩, ⟨A3, n3, c3⟩, m.d, ⟨A4, n4, c4⟩⟩ : MV) m W (HX.out.keep he) hf
  have HGV := Lib.hid hgv
  have HNV := Lib.hid hnv
  have HDV := Lib.hid hdv
  have HAV := Lib.hid hav
  have hzl : w.heap.size + 1 + 1 < wz.heap.size := by omega
  clear hwb hwz hwm hbx hE hEz hEm hE2 hx hf hsb hsz hsm hgv hnv hdv hav
  show Calls Tryz.prog 12 #[.agg #[.int .i64 m.H, .slice A0 n0 c0, .slice A1 n1 c1, .slice A2 n2 c2, .slice A3 n3 c3, .int .i64 m.d, .slice A4 n4 c4], .agg #[.int .i64 a.k, .int .i64 a.a, .int .i64 a.b, .int .i64 a.c, .int .i64 a.d]] w _
  obtain ⟨b0, b1, b2, b3, b4, b5, b6⟩ := HB.out.cell
  simp only at b0 b1 b2 b3 b4 b5 b6
  have Hb0 := Lib.hid b0
  rw [Hwz.out] at b0 b1 b2 b3 b4 b5 b6
  go_enter Tryz.func12, Tryz.ntmps12
  go_wp2_with (go_at_call 44; refine (fun h : Hid _ => h.out) ?_)
  unfold Hid
  rw [← Hwz.out]
  refine cC.out.mono ?_
  rintro e w1 ⟨v1, hev, he1, ho1⟩
  obtain ⟨Hh1, ⟨A01, n01, c01⟩, ⟨A11, n11, c11⟩, ⟨A21, n21, c21⟩, ⟨A31, n31, c31⟩, day1, ⟨A41, n41, c41⟩⟩ := v1
  simp only [MV.val, MV.cells] at hev
  subst hev
  obtain ⟨w2, hw2⟩ : ∃ w2, w2 = w1.alloc (.cells #[.int .i64 Hh1, .slice A01 n01 c01, .slice A11 n11 c11, .slice A21 n21 c21, .slice A31 n31 c31, .int .i64 day1, .slice A41 n41 c41] 30) := ⟨_, rfl⟩
  have hB6 : Blk w2 w1.heap.size 30 #[.int .i64 Hh1, .slice A01 n01 c01, .slice A11 n11 c11, .slice A21 n21 c21, .slice A31 n31 c31, .int .i64 day1, .slice A41 n41 c41] := by rw [hw2]; exact Blk.new _ _ _
  have he2 : Ext w1 w2 := by rw [hw2]; exact (Ext.refl _).alloc _
  have HB6 := Lib.hid hB6
  have HO2 := Lib.hid (ho1.keep he2)
  have HE2 := Lib.hid (he1.trans he2)
  have HW2 := Lib.hid hw2
  have hz2 : wz.heap.size ≤ w1.heap.size := he1.size
  have hs2 : w2.heap.size = w1.heap.size + 1 := by rw [hw2]; simp
  clear hB6 he2 ho1 he1 hw2 b0 b1 b2 b3 b4 b5 b6 cC
  obtain ⟨b0, b1, b2, b3, b4, b5, b6⟩ := (HB.out.keep HE2.out).cell
  have hbm := HBm.out.keep HE2.out
  have q0 := hbm.cellAt (i := 0) (by simp)
  have q1 := hbm.cellAt (i := 1) (by simp)
  have q2 := hbm.cellAt (i := 2) (by simp)
  have q3 := hbm.cellAt (i := 3) (by simp)
  have q4 := hbm.cellAt (i := 4) (by simp)
  simp only at b0 b1 b2 b3 b4 b5 b6
  simp at q0 q1 q2 q3 q4
  rw [HW2.out] at b0 b1 b2 b3 b4 b5 b6 q0 q1 q2 q3 q4
  go_wp2_with (go_at_call 45; refine (fun h : Hid _ => h.out) ?_)
  unfold Hid
  rw [← HW2.out]
  refine (CM.out w2 HE2.out).mono ?_
  rintro e w3 ⟨rfl, he3⟩
  have HE3 := Lib.hid (HE2.out.trans he3)
  have HO3 := Lib.hid (HO2.out.keep he3)
  have HB63 := Lib.hid (HB6.out.keep he3)
  have hz3 : w2.heap.size ≤ w3.heap.size := he3.size
  clear he3
  clear hbm b0 b1 b2 b3 b4 b5 b6 q0 q1 q2 q3 q4
  cases hm : museumB m
  case false =>
    have hba := act_bad (a := a) (m := m) (by rw [hm]; rfl)
    have HF := Lib.hid hba.1
    have HM := Lib.hid hba.2
    clear hm hba
    have Bz := Blk.keep HBz.out HE3.out
    have x0 := Bz.cellAt (i := 0) (by simp)
    have x1 := Bz.cellAt (i := 1) (by simp)
    have x2 := Bz.cellAt (i := 2) (by simp)
    have x3 := Bz.cellAt (i := 3) (by simp)
    have x4 := Bz.cellAt (i := 4) (by simp)
    have x5 := Bz.cellAt (i := 5) (by simp)
    have x6 := Bz.cellAt (i := 6) (by simp)
    have fz := Bz.free
    simp at x0 x1 x2 x3 x4 x5 x6
    have lz : w.heap.size + 1 + 1 < w3.heap.size := Bz.lt
    have y0 := HB63.out.cellAt (i := 0) (by simp)
    have y1 := HB63.out.cellAt (i := 1) (by simp)
    have y2 := HB63.out.cellAt (i := 2) (by simp)
    have y3 := HB63.out.cellAt (i := 3) (by simp)
    have y4 := HB63.out.cellAt (i := 4) (by simp)
    have y5 := HB63.out.cellAt (i := 5) (by simp)
    have y6 := HB63.out.cellAt (i := 6) (by simp)
    simp at y0 y1 y2 y3 y4 y5 y6
    go_wp2_with fail
    obtain ⟨b6', k6⟩ := store7 Bz (.int .i64 Hh1) (.slice A01 n01 c01) (.slice A11 n11 c11) (.slice A21 n21 c21) (.slice A31 n31 c31) (.int .i64 day1) (.slice A41 n41 c41)
    have hO6 := HO3.out.out k6 (by omega)
    have hE6 := k6.ext (HE.out.trans HE3.out) (by omega)
    generalize (((((((w3.setCell ⟨w.heap.size + 1 + 1, 0, none⟩ (.int .i64 Hh1)).setCell ⟨w.heap.size + 1 + 1, 1, none⟩ (.slice A01 n01 c01)).setCell ⟨w.heap.size + 1 + 1, 2, none⟩ (.slice A11 n11 c11)).setCell ⟨w.heap.size + 1 + 1, 3, none⟩ (.slice A21 n21 c21)).setCell ⟨w.heap.size + 1 + 1, 4, none⟩ (.slice A31 n31 c31)).setCell ⟨w.heap.size + 1 + 1, 5, none⟩ (.int .i64 day1)).setCell ⟨w.heap.size + 1 + 1, 6, none⟩ (.slice A41 n41 c41)) = w9 at b6' k6 hO6 hE6 ⊢
    have t0 := b6'.cellAt (i := 0) (by simp)
    have t1 := b6'.cellAt (i := 1) (by simp)
    have t2 := b6'.cellAt (i := 2) (by simp)
    have t3 := b6'.cellAt (i := 3) (by simp)
    have t4 := b6'.cellAt (i := 4) (by simp)
    have t5 := b6'.cellAt (i := 5) (by simp)
    have t6 := b6'.cellAt (i := 6) (by simp)
    simp at t0 t1 t2 t3 t4 t5 t6
    refine bodyPost_ret (v := .tuple #[MV.val ⟨Hh1, ⟨A01, n01, c01⟩, ⟨A11, n11, c11⟩, ⟨A21, n21, c21⟩, ⟨A31, n31, c31⟩, day1, ⟨A41, n41, c41⟩⟩, .int .i64 (-1)]) (by simp [results, Tryz.results12, go_sem, t0, t1, t2, t3, t4, t5, t6, MV.val, MV.cells]) rfl ?_
    exact ⟨_, (by rw [HF.out]), hE6, by rw [HM.out]; exact hO6.weak (by omega)⟩
  obtain ⟨b0, b1, b2, b3, b4, b5, b6⟩ := (HB.out.keep HE3.out).cell
  have hbm := HBm.out.keep HE3.out
  have q0 := hbm.cellAt (i := 0) (by simp)
  have q1 := hbm.cellAt (i := 1) (by simp)
  have q2 := hbm.cellAt (i := 2) (by simp)
  have q3 := hbm.cellAt (i := 3) (by simp)
  have q4 := hbm.cellAt (i := 4) (by simp)
  simp only at b0 b1 b2 b3 b4 b5 b6
  simp at q0 q1 q2 q3 q4
  go_wp2_with (go_at_call 46; refine (fun h : Hid _ => h.out) ?_)
  unfold Hid
  refine (CA.out w3).mono ?_
  rintro e w4 ⟨rfl, he4⟩
  have HE4 := Lib.hid (HE3.out.trans he4)
  have HO4 := Lib.hid (HO3.out.keep he4)
  have HB64 := Lib.hid (HB63.out.keep he4)
  have hz4 : w3.heap.size ≤ w4.heap.size := he4.size
  clear he4
  clear hbm b0 b1 b2 b3 b4 b5 b6 q0 q1 q2 q3 q4
  cases hok : acOk a
  case false =>
    have hba := act_bad (a := a) (m := m) (by rw [hok]; simp)
    have HF := Lib.hid hba.1
    have HM := Lib.hid hba.2
    clear hm hok hba
    have Bz := Blk.keep HBz.out HE4.out
    have x0 := Bz.cellAt (i := 0) (by simp)
    have x1 := Bz.cellAt (i := 1) (by simp)
    have x2 := Bz.cellAt (i := 2) (by simp)
    have x3 := Bz.cellAt (i := 3) (by simp)
    have x4 := Bz.cellAt (i := 4) (by simp)
    have x5 := Bz.cellAt (i := 5) (by simp)
    have x6 := Bz.cellAt (i := 6) (by simp)
    have fz := Bz.free
    simp at x0 x1 x2 x3 x4 x5 x6
    have lz : w.heap.size + 1 + 1 < w4.heap.size := Bz.lt
    have y0 := HB64.out.cellAt (i := 0) (by simp)
    have y1 := HB64.out.cellAt (i := 1) (by simp)
    have y2 := HB64.out.cellAt (i := 2) (by simp)
    have y3 := HB64.out.cellAt (i := 3) (by simp)
    have y4 := HB64.out.cellAt (i := 4) (by simp)
    have y5 := HB64.out.cellAt (i := 5) (by simp)
    have y6 := HB64.out.cellAt (i := 6) (by simp)
    simp at y0 y1 y2 y3 y4 y5 y6
    go_wp2_with fail
    obtain ⟨b6', k6⟩ := store7 Bz (.int .i64 Hh1) (.slice A01 n01 c01) (.slice A11 n11 c11) (.slice A21 n21 c21) (.slice A31 n31 c31) (.int .i64 day1) (.slice A41 n41 c41)
    have hO6 := HO4.out.out k6 (by omega)
    have hE6 := k6.ext (HE.out.trans HE4.out) (by omega)
    generalize (((((((w4.setCell ⟨w.heap.size + 1 + 1, 0, none⟩ (.int .i64 Hh1)).setCell ⟨w.heap.size + 1 + 1, 1, none⟩ (.slice A01 n01 c01)).setCell ⟨w.heap.size + 1 + 1, 2, none⟩ (.slice A11 n11 c11)).setCell ⟨w.heap.size + 1 + 1, 3, none⟩ (.slice A21 n21 c21)).setCell ⟨w.heap.size + 1 + 1, 4, none⟩ (.slice A31 n31 c31)).setCell ⟨w.heap.size + 1 + 1, 5, none⟩ (.int .i64 day1)).setCell ⟨w.heap.size + 1 + 1, 6, none⟩ (.slice A41 n41 c41)) = w9 at b6' k6 hO6 hE6 ⊢
    have t0 := b6'.cellAt (i := 0) (by simp)
    have t1 := b6'.cellAt (i := 1) (by simp)
    have t2 := b6'.cellAt (i := 2) (by simp)
    have t3 := b6'.cellAt (i := 3) (by simp)
    have t4 := b6'.cellAt (i := 4) (by simp)
    have t5 := b6'.cellAt (i := 5) (by simp)
    have t6 := b6'.cellAt (i := 6) (by simp)
    simp at t0 t1 t2 t3 t4 t5 t6
    refine bodyPost_ret (v := .tuple #[MV.val ⟨Hh1, ⟨A01, n01, c01⟩, ⟨A11, n11, c11⟩, ⟨A21, n21, c21⟩, ⟨A31, n31, c31⟩, day1, ⟨A41, n41, c41⟩⟩, .int .i64 (-1)]) (by simp [results, Tryz.results12, go_sem, t0, t1, t2, t3, t4, t5, t6, MV.val, MV.cells]) rfl ?_
    exact ⟨_, (by rw [HF.out]), hE6, by rw [HM.out]; exact hO6.weak (by omega)⟩
  rcases (ac_cases hok).1 with hk | hk | hk | hk | hk
  · have hka := act1 hm hok hk
    rw [← HGV.out] at hka
    have HF0 := Lib.hid hka.1
    have HM := Lib.hid hka.2
    have e1 : (a.k == 1) = true := by rw [hk]; rfl
    clear hm hok hk hka
    obtain ⟨b0, b1, b2, b3, b4, b5, b6⟩ := (HB.out.keep HE4.out).cell
    have hbm := HBm.out.keep HE4.out
    have q0 := hbm.cellAt (i := 0) (by simp)
    have q1 := hbm.cellAt (i := 1) (by simp)
    have q2 := hbm.cellAt (i := 2) (by simp)
    have q3 := hbm.cellAt (i := 3) (by simp)
    have q4 := hbm.cellAt (i := 4) (by simp)
    simp only at b0 b1 b2 b3 b4 b5 b6
    simp at q0 q1 q2 q3 q4
    go_wp2_with (go_at_call 47; refine (fun h : Hid _ => h.out) ?_)
    unfold Hid
    refine (CG.out w4 HE4.out).mono ?_
    rintro e w5 ⟨v2, hev, he5, ho5⟩
    obtain ⟨Hh2, ⟨A02, n02, c02⟩, ⟨A12, n12, c12⟩, ⟨A22, n22, c22⟩, ⟨A32, n32, c32⟩, day2, ⟨A42, n42, c42⟩⟩ := v2
    simp only [MV.val, MV.cells] at hev
    subst hev
    have hE5 := HE4.out.trans he5
    have hB5 := HB64.out.keep he5
    have hz5 : w4.heap.size ≤ w5.heap.size := he5.size
    clear he5
    clear hbm b0 b1 b2 b3 b4 b5 b6 q0 q1 q2 q3 q4
    have l5 := hB5.lt
    have f5 := hB5.free
    have HB5 := Lib.hid hB5
    have y0 := HB5.out.cellAt (i := 0) (by simp)
    have y1 := HB5.out.cellAt (i := 1) (by simp)
    have y2 := HB5.out.cellAt (i := 2) (by simp)
    have y3 := HB5.out.cellAt (i := 3) (by simp)
    have y4 := HB5.out.cellAt (i := 4) (by simp)
    have y5 := HB5.out.cellAt (i := 5) (by simp)
    have y6 := HB5.out.cellAt (i := 6) (by simp)
    simp at y0 y1 y2 y3 y4 y5 y6
    clear hB5
    go_upto_region 18 with fail
    obtain ⟨b7, k7⟩ := store7 HB5.out (.int .i64 Hh2) (.slice A02 n02 c02) (.slice A12 n12 c12) (.slice A22 n22 c22) (.slice A32 n32 c32) (.int .i64 day2) (.slice A42 n42 c42)
    have hO7 := ho5.out k7 (by omega)
    have hE7 := k7.ext hE5 hz2
    have hz7 := k7.size
    generalize (((((((w5.setCell ⟨w1.heap.size, 0, none⟩ (.int .i64 Hh2)).setCell ⟨w1.heap.size, 1, none⟩ (.slice A02 n02 c02)).setCell ⟨w1.heap.size, 2, none⟩ (.slice A12 n12 c12)).setCell ⟨w1.heap.size, 3, none⟩ (.slice A22 n22 c22)).setCell ⟨w1.heap.size, 4, none⟩ (.slice A32 n32 c32)).setCell ⟨w1.heap.size, 5, none⟩ (.int .i64 day2)).setCell ⟨w1.heap.size, 6, none⟩ (.slice A42 n42 c42)) = w7 at b7 k7 hO7 hE7 hz7 ⊢
    have HB7 := Lib.hid b7
    have HO7 := Lib.hid hO7
    have HE7 := Lib.hid hE7
    clear b7 k7 hO7 hE7 hE5 ho5 y0 y1 y2 y3 y4 y5 y6 f5 l5
    have HF : Hid (actN m a = b01 gv) := HF0
    have Bz := Blk.keep HBz.out HE7.out
    have x0 := Bz.cellAt (i := 0) (by simp)
    have x1 := Bz.cellAt (i := 1) (by simp)
    have x2 := Bz.cellAt (i := 2) (by simp)
    have x3 := Bz.cellAt (i := 3) (by simp)
    have x4 := Bz.cellAt (i := 4) (by simp)
    have x5 := Bz.cellAt (i := 5) (by simp)
    have x6 := Bz.cellAt (i := 6) (by simp)
    have fz := Bz.free
    simp at x0 x1 x2 x3 x4 x5 x6
    have lz : w.heap.size + 1 + 1 < w7.heap.size := Bz.lt
    have y0 := HB7.out.cellAt (i := 0) (by simp)
    have y1 := HB7.out.cellAt (i := 1) (by simp)
    have y2 := HB7.out.cellAt (i := 2) (by simp)
    have y3 := HB7.out.cellAt (i := 3) (by simp)
    have y4 := HB7.out.cellAt (i := 4) (by simp)
    have y5 := HB7.out.cellAt (i := 5) (by simp)
    have y6 := HB7.out.cellAt (i := 6) (by simp)
    simp at y0 y1 y2 y3 y4 y5 y6
    have ne7 : w1.heap.size ≠ w.heap.size + 1 + 1 := by omega
    have ne8 : w.heap.size + 1 + 1 ≠ w1.heap.size := by omega
    go_upto_region 18 with fail
    go_region_held3 (fun w' => w'.cell? ⟨w1.heap.size, 0, none⟩ = some (.int .i64 Hh2) ∧ w'.cell? ⟨w1.heap.size, 1, none⟩ = some (.slice A02 n02 c02) ∧ w'.cell? ⟨w1.heap.size, 2, none⟩ = some (.slice A12 n12 c12) ∧ w'.cell? ⟨w1.heap.size, 3, none⟩ = some (.slice A22 n22 c22) ∧ w'.cell? ⟨w1.heap.size, 4, none⟩ = some (.slice A32 n32 c32) ∧ w'.cell? ⟨w1.heap.size, 5, none⟩ = some (.int .i64 day2) ∧ w'.cell? ⟨w1.heap.size, 6, none⟩ = some (.slice A42 n42 c42)) (go_keep) (first | (go_at_call 51; refine (spec_l39Bool gv _).mono ?_; rintro e w8 ⟨rfl, rfl⟩))
    go_wp2_with fail
    obtain ⟨b6', k6⟩ := store7 Bz (.int .i64 Hh2) (.slice A02 n02 c02) (.slice A12 n12 c12) (.slice A22 n22 c22) (.slice A32 n32 c32) (.int .i64 day2) (.slice A42 n42 c42)
    have hO6 := HO7.out.out k6 (by omega)
    have hE6 := k6.ext (HE.out.trans HE7.out) (by omega)
    generalize (((((((w7.setCell ⟨w.heap.size + 1 + 1, 0, none⟩ (.int .i64 Hh2)).setCell ⟨w.heap.size + 1 + 1, 1, none⟩ (.slice A02 n02 c02)).setCell ⟨w.heap.size + 1 + 1, 2, none⟩ (.slice A12 n12 c12)).setCell ⟨w.heap.size + 1 + 1, 3, none⟩ (.slice A22 n22 c22)).setCell ⟨w.heap.size + 1 + 1, 4, none⟩ (.slice A32 n32 c32)).setCell ⟨w.heap.size + 1 + 1, 5, none⟩ (.int .i64 day2)).setCell ⟨w.heap.size + 1 + 1, 6, none⟩ (.slice A42 n42 c42)) = w9 at b6' k6 hO6 hE6 ⊢
    have t0 := b6'.cellAt (i := 0) (by simp)
    have t1 := b6'.cellAt (i := 1) (by simp)
    have t2 := b6'.cellAt (i := 2) (by simp)
    have t3 := b6'.cellAt (i := 3) (by simp)
    have t4 := b6'.cellAt (i := 4) (by simp)
    have t5 := b6'.cellAt (i := 5) (by simp)
    have t6 := b6'.cellAt (i := 6) (by simp)
    simp at t0 t1 t2 t3 t4 t5 t6
    refine bodyPost_ret (v := .tuple #[MV.val ⟨Hh2, ⟨A02, n02, c02⟩, ⟨A12, n12, c12⟩, ⟨A22, n22, c22⟩, ⟨A32, n32, c32⟩, day2, ⟨A42, n42, c42⟩⟩, .int .i64 (b01 gv)]) (by simp [results, Tryz.results12, go_sem, t0, t1, t2, t3, t4, t5, t6, MV.val, MV.cells]) rfl ?_
    exact ⟨_, (by rw [HF.out]), hE6.drew, by rw [HM.out]; exact (hO6.keep (Ext.refl _).drew).weak (by omega)⟩
  · have hka := act2 hm hok hk
    rw [← HNV.out] at hka
    have HF0 := Lib.hid hka.1
    have HM := Lib.hid hka.2
    have e1 : (a.k == 1) = false := by rw [hk]; rfl
    have e2 : (a.k == 2) = true := by rw [hk]; rfl
    clear hm hok hk hka
    obtain ⟨b0, b1, b2, b3, b4, b5, b6⟩ := (HB.out.keep HE4.out).cell
    have hbm := HBm.out.keep HE4.out
    have q0 := hbm.cellAt (i := 0) (by simp)
    have q1 := hbm.cellAt (i := 1) (by simp)
    have q2 := hbm.cellAt (i := 2) (by simp)
    have q3 := hbm.cellAt (i := 3) (by simp)
    have q4 := hbm.cellAt (i := 4) (by simp)
    simp only at b0 b1 b2 b3 b4 b5 b6
    simp at q0 q1 q2 q3 q4
    go_wp2_with (go_at_call 48; refine (fun h : Hid _ => h.out) ?_)
    unfold Hid
    refine (CN.out w4 HE4.out).mono ?_
    rintro e w5 ⟨v2, hev, he5, ho5⟩
    obtain ⟨Hh2, ⟨A02, n02, c02⟩, ⟨A12, n12, c12⟩, ⟨A22, n22, c22⟩, ⟨A32, n32, c32⟩, day2, ⟨A42, n42, c42⟩⟩ := v2
    simp only [MV.val, MV.cells] at hev
    subst hev
    have hE5 := HE4.out.trans he5
    have hB5 := HB64.out.keep he5
    have hz5 : w4.heap.size ≤ w5.heap.size := he5.size
    clear he5
    clear hbm b0 b1 b2 b3 b4 b5 b6 q0 q1 q2 q3 q4
    have l5 := hB5.lt
    have f5 := hB5.free
    have HB5 := Lib.hid hB5
    have y0 := HB5.out.cellAt (i := 0) (by simp)
    have y1 := HB5.out.cellAt (i := 1) (by simp)
    have y2 := HB5.out.cellAt (i := 2) (by simp)
    have y3 := HB5.out.cellAt (i := 3) (by simp)
    have y4 := HB5.out.cellAt (i := 4) (by simp)
    have y5 := HB5.out.cellAt (i := 5) (by simp)
    have y6 := HB5.out.cellAt (i := 6) (by simp)
    simp at y0 y1 y2 y3 y4 y5 y6
    clear hB5
    go_upto_region 18 with fail
    obtain ⟨b7, k7⟩ := store7 HB5.out (.int .i64 Hh2) (.slice A02 n02 c02) (.slice A12 n12 c12) (.slice A22 n22 c22) (.slice A32 n32 c32) (.int .i64 day2) (.slice A42 n42 c42)
    have hO7 := ho5.out k7 (by omega)
    have hE7 := k7.ext hE5 hz2
    have hz7 := k7.size
    generalize (((((((w5.setCell ⟨w1.heap.size, 0, none⟩ (.int .i64 Hh2)).setCell ⟨w1.heap.size, 1, none⟩ (.slice A02 n02 c02)).setCell ⟨w1.heap.size, 2, none⟩ (.slice A12 n12 c12)).setCell ⟨w1.heap.size, 3, none⟩ (.slice A22 n22 c22)).setCell ⟨w1.heap.size, 4, none⟩ (.slice A32 n32 c32)).setCell ⟨w1.heap.size, 5, none⟩ (.int .i64 day2)).setCell ⟨w1.heap.size, 6, none⟩ (.slice A42 n42 c42)) = w7 at b7 k7 hO7 hE7 hz7 ⊢
    have HB7 := Lib.hid b7
    have HO7 := Lib.hid hO7
    have HE7 := Lib.hid hE7
    clear b7 k7 hO7 hE7 hE5 ho5 y0 y1 y2 y3 y4 y5 y6 f5 l5
    have HF : Hid (actN m a = b01 nv) := HF0
    have Bz := Blk.keep HBz.out HE7.out
    have x0 := Bz.cellAt (i := 0) (by simp)
    have x1 := Bz.cellAt (i := 1) (by simp)
    have x2 := Bz.cellAt (i := 2) (by simp)
    have x3 := Bz.cellAt (i := 3) (by simp)
    have x4 := Bz.cellAt (i := 4) (by simp)
    have x5 := Bz.cellAt (i := 5) (by simp)
    have x6 := Bz.cellAt (i := 6) (by simp)
    have fz := Bz.free
    simp at x0 x1 x2 x3 x4 x5 x6
    have lz : w.heap.size + 1 + 1 < w7.heap.size := Bz.lt
    have y0 := HB7.out.cellAt (i := 0) (by simp)
    have y1 := HB7.out.cellAt (i := 1) (by simp)
    have y2 := HB7.out.cellAt (i := 2) (by simp)
    have y3 := HB7.out.cellAt (i := 3) (by simp)
    have y4 := HB7.out.cellAt (i := 4) (by simp)
    have y5 := HB7.out.cellAt (i := 5) (by simp)
    have y6 := HB7.out.cellAt (i := 6) (by simp)
    simp at y0 y1 y2 y3 y4 y5 y6
    have ne7 : w1.heap.size ≠ w.heap.size + 1 + 1 := by omega
    have ne8 : w.heap.size + 1 + 1 ≠ w1.heap.size := by omega
    go_upto_region 18 with fail
    go_region_held3 (fun w' => w'.cell? ⟨w1.heap.size, 0, none⟩ = some (.int .i64 Hh2) ∧ w'.cell? ⟨w1.heap.size, 1, none⟩ = some (.slice A02 n02 c02) ∧ w'.cell? ⟨w1.heap.size, 2, none⟩ = some (.slice A12 n12 c12) ∧ w'.cell? ⟨w1.heap.size, 3, none⟩ = some (.slice A22 n22 c22) ∧ w'.cell? ⟨w1.heap.size, 4, none⟩ = some (.slice A32 n32 c32) ∧ w'.cell? ⟨w1.heap.size, 5, none⟩ = some (.int .i64 day2) ∧ w'.cell? ⟨w1.heap.size, 6, none⟩ = some (.slice A42 n42 c42)) (go_keep) (first | (go_at_call 51; refine (spec_l39Bool nv _).mono ?_; rintro e w8 ⟨rfl, rfl⟩))
    go_wp2_with fail
    obtain ⟨b6', k6⟩ := store7 Bz (.int .i64 Hh2) (.slice A02 n02 c02) (.slice A12 n12 c12) (.slice A22 n22 c22) (.slice A32 n32 c32) (.int .i64 day2) (.slice A42 n42 c42)
    have hO6 := HO7.out.out k6 (by omega)
    have hE6 := k6.ext (HE.out.trans HE7.out) (by omega)
    generalize (((((((w7.setCell ⟨w.heap.size + 1 + 1, 0, none⟩ (.int .i64 Hh2)).setCell ⟨w.heap.size + 1 + 1, 1, none⟩ (.slice A02 n02 c02)).setCell ⟨w.heap.size + 1 + 1, 2, none⟩ (.slice A12 n12 c12)).setCell ⟨w.heap.size + 1 + 1, 3, none⟩ (.slice A22 n22 c22)).setCell ⟨w.heap.size + 1 + 1, 4, none⟩ (.slice A32 n32 c32)).setCell ⟨w.heap.size + 1 + 1, 5, none⟩ (.int .i64 day2)).setCell ⟨w.heap.size + 1 + 1, 6, none⟩ (.slice A42 n42 c42)) = w9 at b6' k6 hO6 hE6 ⊢
    have t0 := b6'.cellAt (i := 0) (by simp)
    have t1 := b6'.cellAt (i := 1) (by simp)
    have t2 := b6'.cellAt (i := 2) (by simp)
    have t3 := b6'.cellAt (i := 3) (by simp)
    have t4 := b6'.cellAt (i := 4) (by simp)
    have t5 := b6'.cellAt (i := 5) (by simp)
    have t6 := b6'.cellAt (i := 6) (by simp)
    simp at t0 t1 t2 t3 t4 t5 t6
    refine bodyPost_ret (v := .tuple #[MV.val ⟨Hh2, ⟨A02, n02, c02⟩, ⟨A12, n12, c12⟩, ⟨A22, n22, c22⟩, ⟨A32, n32, c32⟩, day2, ⟨A42, n42, c42⟩⟩, .int .i64 (b01 nv)]) (by simp [results, Tryz.results12, go_sem, t0, t1, t2, t3, t4, t5, t6, MV.val, MV.cells]) rfl ?_
    exact ⟨_, (by rw [HF.out]), hE6.drew, by rw [HM.out]; exact (hO6.keep (Ext.refl _).drew).weak (by omega)⟩
  · have hka := act3 hm hok hk
    rw [← HDV.out] at hka
    have HF0 := Lib.hid hka.1
    have HM := Lib.hid hka.2
    have e1 : (a.k == 1) = false := by rw [hk]; rfl
    have e2 : (a.k == 2) = false := by rw [hk]; rfl
    have e3 : (a.k == 3) = true := by rw [hk]; rfl
    clear hm hok hk hka
    obtain ⟨b0, b1, b2, b3, b4, b5, b6⟩ := (HB.out.keep HE4.out).cell
    have hbm := HBm.out.keep HE4.out
    have q0 := hbm.cellAt (i := 0) (by simp)
    have q1 := hbm.cellAt (i := 1) (by simp)
    have q2 := hbm.cellAt (i := 2) (by simp)
    have q3 := hbm.cellAt (i := 3) (by simp)
    have q4 := hbm.cellAt (i := 4) (by simp)
    simp only at b0 b1 b2 b3 b4 b5 b6
    simp at q0 q1 q2 q3 q4
    go_wp2_with (go_at_call 49; refine (fun h : Hid _ => h.out) ?_)
    unfold Hid
    refine (CD.out w4 HE4.out).mono ?_
    rintro e w5 ⟨v2, hev, he5, ho5⟩
    obtain ⟨Hh2, ⟨A02, n02, c02⟩, ⟨A12, n12, c12⟩, ⟨A22, n22, c22⟩, ⟨A32, n32, c32⟩, day2, ⟨A42, n42, c42⟩⟩ := v2
    simp only [MV.val, MV.cells] at hev
    subst hev
    have hE5 := HE4.out.trans he5
    have hB5 := HB64.out.keep he5
    have hz5 : w4.heap.size ≤ w5.heap.size := he5.size
    clear he5
    clear hbm b0 b1 b2 b3 b4 b5 b6 q0 q1 q2 q3 q4
    have l5 := hB5.lt
    have f5 := hB5.free
    have HB5 := Lib.hid hB5
    have y0 := HB5.out.cellAt (i := 0) (by simp)
    have y1 := HB5.out.cellAt (i := 1) (by simp)
    have y2 := HB5.out.cellAt (i := 2) (by simp)
    have y3 := HB5.out.cellAt (i := 3) (by simp)
    have y4 := HB5.out.cellAt (i := 4) (by simp)
    have y5 := HB5.out.cellAt (i := 5) (by simp)
    have y6 := HB5.out.cellAt (i := 6) (by simp)
    simp at y0 y1 y2 y3 y4 y5 y6
    clear hB5
    go_upto_region 18 with fail
    obtain ⟨b7, k7⟩ := store7 HB5.out (.int .i64 Hh2) (.slice A02 n02 c02) (.slice A12 n12 c12) (.slice A22 n22 c22) (.slice A32 n32 c32) (.int .i64 day2) (.slice A42 n42 c42)
    have hO7 := ho5.out k7 (by omega)
    have hE7 := k7.ext hE5 hz2
    have hz7 := k7.size
    generalize (((((((w5.setCell ⟨w1.heap.size, 0, none⟩ (.int .i64 Hh2)).setCell ⟨w1.heap.size, 1, none⟩ (.slice A02 n02 c02)).setCell ⟨w1.heap.size, 2, none⟩ (.slice A12 n12 c12)).setCell ⟨w1.heap.size, 3, none⟩ (.slice A22 n22 c22)).setCell ⟨w1.heap.size, 4, none⟩ (.slice A32 n32 c32)).setCell ⟨w1.heap.size, 5, none⟩ (.int .i64 day2)).setCell ⟨w1.heap.size, 6, none⟩ (.slice A42 n42 c42)) = w7 at b7 k7 hO7 hE7 hz7 ⊢
    have HB7 := Lib.hid b7
    have HO7 := Lib.hid hO7
    have HE7 := Lib.hid hE7
    clear b7 k7 hO7 hE7 hE5 ho5 y0 y1 y2 y3 y4 y5 y6 f5 l5
    have HF : Hid (actN m a = b01 dv) := HF0
    have Bz := Blk.keep HBz.out HE7.out
    have x0 := Bz.cellAt (i := 0) (by simp)
    have x1 := Bz.cellAt (i := 1) (by simp)
    have x2 := Bz.cellAt (i := 2) (by simp)
    have x3 := Bz.cellAt (i := 3) (by simp)
    have x4 := Bz.cellAt (i := 4) (by simp)
    have x5 := Bz.cellAt (i := 5) (by simp)
    have x6 := Bz.cellAt (i := 6) (by simp)
    have fz := Bz.free
    simp at x0 x1 x2 x3 x4 x5 x6
    have lz : w.heap.size + 1 + 1 < w7.heap.size := Bz.lt
    have y0 := HB7.out.cellAt (i := 0) (by simp)
    have y1 := HB7.out.cellAt (i := 1) (by simp)
    have y2 := HB7.out.cellAt (i := 2) (by simp)
    have y3 := HB7.out.cellAt (i := 3) (by simp)
    have y4 := HB7.out.cellAt (i := 4) (by simp)
    have y5 := HB7.out.cellAt (i := 5) (by simp)
    have y6 := HB7.out.cellAt (i := 6) (by simp)
    simp at y0 y1 y2 y3 y4 y5 y6
    have ne7 : w1.heap.size ≠ w.heap.size + 1 + 1 := by omega
    have ne8 : w.heap.size + 1 + 1 ≠ w1.heap.size := by omega
    go_upto_region 18 with fail
    go_region_held3 (fun w' => w'.cell? ⟨w1.heap.size, 0, none⟩ = some (.int .i64 Hh2) ∧ w'.cell? ⟨w1.heap.size, 1, none⟩ = some (.slice A02 n02 c02) ∧ w'.cell? ⟨w1.heap.size, 2, none⟩ = some (.slice A12 n12 c12) ∧ w'.cell? ⟨w1.heap.size, 3, none⟩ = some (.slice A22 n22 c22) ∧ w'.cell? ⟨w1.heap.size, 4, none⟩ = some (.slice A32 n32 c32) ∧ w'.cell? ⟨w1.heap.size, 5, none⟩ = some (.int .i64 day2) ∧ w'.cell? ⟨w1.heap.size, 6, none⟩ = some (.slice A42 n42 c42)) (go_keep) (first | (go_at_call 51; refine (spec_l39Bool dv _).mono ?_; rintro e w8 ⟨rfl, rfl⟩))
    go_wp2_with fail
    obtain ⟨b6', k6⟩ := store7 Bz (.int .i64 Hh2) (.slice A02 n02 c02) (.slice A12 n12 c12) (.slice A22 n22 c22) (.slice A32 n32 c32) (.int .i64 day2) (.slice A42 n42 c42)
    have hO6 := HO7.out.out k6 (by omega)
    have hE6 := k6.ext (HE.out.trans HE7.out) (by omega)
    generalize (((((((w7.setCell ⟨w.heap.size + 1 + 1, 0, none⟩ (.int .i64 Hh2)).setCell ⟨w.heap.size + 1 + 1, 1, none⟩ (.slice A02 n02 c02)).setCell ⟨w.heap.size + 1 + 1, 2, none⟩ (.slice A12 n12 c12)).setCell ⟨w.heap.size + 1 + 1, 3, none⟩ (.slice A22 n22 c22)).setCell ⟨w.heap.size + 1 + 1, 4, none⟩ (.slice A32 n32 c32)).setCell ⟨w.heap.size + 1 + 1, 5, none⟩ (.int .i64 day2)).setCell ⟨w.heap.size + 1 + 1, 6, none⟩ (.slice A42 n42 c42)) = w9 at b6' k6 hO6 hE6 ⊢
    have t0 := b6'.cellAt (i := 0) (by simp)
    have t1 := b6'.cellAt (i := 1) (by simp)
    have t2 := b6'.cellAt (i := 2) (by simp)
    have t3 := b6'.cellAt (i := 3) (by simp)
    have t4 := b6'.cellAt (i := 4) (by simp)
    have t5 := b6'.cellAt (i := 5) (by simp)
    have t6 := b6'.cellAt (i := 6) (by simp)
    simp at t0 t1 t2 t3 t4 t5 t6
    refine bodyPost_ret (v := .tuple #[MV.val ⟨Hh2, ⟨A02, n02, c02⟩, ⟨A12, n12, c12⟩, ⟨A22, n22, c22⟩, ⟨A32, n32, c32⟩, day2, ⟨A42, n42, c42⟩⟩, .int .i64 (b01 dv)]) (by simp [results, Tryz.results12, go_sem, t0, t1, t2, t3, t4, t5, t6, MV.val, MV.cells]) rfl ?_
    exact ⟨_, (by rw [HF.out]), hE6.drew, by rw [HM.out]; exact (hO6.keep (Ext.refl _).drew).weak (by omega)⟩
  · have hka := act4 hm hok hk
    rw [← HAV.out] at hka
    have HF0 := Lib.hid hka.1
    have HM := Lib.hid hka.2
    have e1 : (a.k == 1) = false := by rw [hk]; rfl
    have e2 : (a.k == 2) = false := by rw [hk]; rfl
    have e3 : (a.k == 3) = false := by rw [hk]; rfl
    have e4 : (a.k == 4) = true := by rw [hk]; rfl
    clear hm hok hk hka
    obtain ⟨b0, b1, b2, b3, b4, b5, b6⟩ := (HB.out.keep HE4.out).cell
    have hbm := HBm.out.keep HE4.out
    have q0 := hbm.cellAt (i := 0) (by simp)
    have q1 := hbm.cellAt (i := 1) (by simp)
    have q2 := hbm.cellAt (i := 2) (by simp)
    have q3 := hbm.cellAt (i := 3) (by simp)
    have q4 := hbm.cellAt (i := 4) (by simp)
    simp only at b0 b1 b2 b3 b4 b5 b6
    simp at q0 q1 q2 q3 q4
    go_wp2_with (go_at_call 50; refine (fun h : Hid _ => h.out) ?_)
    unfold Hid
    refine (CU.out w4 HE4.out).mono ?_
    rintro e w5 ⟨rfl, he5⟩
    have HE5 := Lib.hid (HE4.out.trans he5)
    have HB5 := Lib.hid (HB64.out.keep he5)
    have HO5 := Lib.hid (HO4.out.keep he5)
    have hz5 : w4.heap.size ≤ w5.heap.size := he5.size
    clear he5
    clear hbm b0 b1 b2 b3 b4 b5 b6 q0 q1 q2 q3 q4
    have HF : Hid (actN m a = b01 av) := HF0
    have Bz := Blk.keep HBz.out HE5.out
    have x0 := Bz.cellAt (i := 0) (by simp)
    have x1 := Bz.cellAt (i := 1) (by simp)
    have x2 := Bz.cellAt (i := 2) (by simp)
    have x3 := Bz.cellAt (i := 3) (by simp)
    have x4 := Bz.cellAt (i := 4) (by simp)
    have x5 := Bz.cellAt (i := 5) (by simp)
    have x6 := Bz.cellAt (i := 6) (by simp)
    have fz := Bz.free
    simp at x0 x1 x2 x3 x4 x5 x6
    have lz : w.heap.size + 1 + 1 < w5.heap.size := Bz.lt
    have y0 := HB5.out.cellAt (i := 0) (by simp)
    have y1 := HB5.out.cellAt (i := 1) (by simp)
    have y2 := HB5.out.cellAt (i := 2) (by simp)
    have y3 := HB5.out.cellAt (i := 3) (by simp)
    have y4 := HB5.out.cellAt (i := 4) (by simp)
    have y5 := HB5.out.cellAt (i := 5) (by simp)
    have y6 := HB5.out.cellAt (i := 6) (by simp)
    simp at y0 y1 y2 y3 y4 y5 y6
    have ne7 : w1.heap.size ≠ w.heap.size + 1 + 1 := by omega
    have ne8 : w.heap.size + 1 + 1 ≠ w1.heap.size := by omega
    go_upto_region 18 with fail
    go_region_held3 (fun w' => w'.cell? ⟨w1.heap.size, 0, none⟩ = some (.int .i64 Hh1) ∧ w'.cell? ⟨w1.heap.size, 1, none⟩ = some (.slice A01 n01 c01) ∧ w'.cell? ⟨w1.heap.size, 2, none⟩ = some (.slice A11 n11 c11) ∧ w'.cell? ⟨w1.heap.size, 3, none⟩ = some (.slice A21 n21 c21) ∧ w'.cell? ⟨w1.heap.size, 4, none⟩ = some (.slice A31 n31 c31) ∧ w'.cell? ⟨w1.heap.size, 5, none⟩ = some (.int .i64 day1) ∧ w'.cell? ⟨w1.heap.size, 6, none⟩ = some (.slice A41 n41 c41)) (go_keep) (first | (go_at_call 51; refine (spec_l39Bool av _).mono ?_; rintro e w8 ⟨rfl, rfl⟩))
    go_wp2_with fail
    obtain ⟨b6', k6⟩ := store7 Bz (.int .i64 Hh1) (.slice A01 n01 c01) (.slice A11 n11 c11) (.slice A21 n21 c21) (.slice A31 n31 c31) (.int .i64 day1) (.slice A41 n41 c41)
    have hO6 := HO5.out.out k6 (by omega)
    have hE6 := k6.ext (HE.out.trans HE5.out) (by omega)
    generalize (((((((w5.setCell ⟨w.heap.size + 1 + 1, 0, none⟩ (.int .i64 Hh1)).setCell ⟨w.heap.size + 1 + 1, 1, none⟩ (.slice A01 n01 c01)).setCell ⟨w.heap.size + 1 + 1, 2, none⟩ (.slice A11 n11 c11)).setCell ⟨w.heap.size + 1 + 1, 3, none⟩ (.slice A21 n21 c21)).setCell ⟨w.heap.size + 1 + 1, 4, none⟩ (.slice A31 n31 c31)).setCell ⟨w.heap.size + 1 + 1, 5, none⟩ (.int .i64 day1)).setCell ⟨w.heap.size + 1 + 1, 6, none⟩ (.slice A41 n41 c41)) = w9 at b6' k6 hO6 hE6 ⊢
    have t0 := b6'.cellAt (i := 0) (by simp)
    have t1 := b6'.cellAt (i := 1) (by simp)
    have t2 := b6'.cellAt (i := 2) (by simp)
    have t3 := b6'.cellAt (i := 3) (by simp)
    have t4 := b6'.cellAt (i := 4) (by simp)
    have t5 := b6'.cellAt (i := 5) (by simp)
    have t6 := b6'.cellAt (i := 6) (by simp)
    simp at t0 t1 t2 t3 t4 t5 t6
    refine bodyPost_ret (v := .tuple #[MV.val ⟨Hh1, ⟨A01, n01, c01⟩, ⟨A11, n11, c11⟩, ⟨A21, n21, c21⟩, ⟨A31, n31, c31⟩, day1, ⟨A41, n41, c41⟩⟩, .int .i64 (b01 av)]) (by simp [results, Tryz.results12, go_sem, t0, t1, t2, t3, t4, t5, t6, MV.val, MV.cells]) rfl ?_
    exact ⟨_, (by rw [HF.out]), hE6.drew, by rw [HM.out]; exact (hO6.keep (Ext.refl _).drew).weak (by omega)⟩
  · have hka := act5 hm hok hk
    have ha0 := ac5_a hok
    have HM := Lib.hid hka.2
    have HFA := Lib.hid hka.1
    have e1 : (a.k == 1) = false := by rw [hk]; rfl
    have e2 : (a.k == 2) = false := by rw [hk]; rfl
    have e3 : (a.k == 3) = false := by rw [hk]; rfl
    have e4 : (a.k == 4) = false := by rw [hk]; rfl
    have e5 : (a.k == 5) = true := by rw [hk]; rfl
    clear hm hok hk hka
    obtain ⟨b0, b1, b2, b3, b4, b5, b6⟩ := (HB.out.keep HE4.out).cell
    have hbm := HBm.out.keep HE4.out
    have q0 := hbm.cellAt (i := 0) (by simp)
    have q1 := hbm.cellAt (i := 1) (by simp)
    have q2 := hbm.cellAt (i := 2) (by simp)
    have q3 := hbm.cellAt (i := 3) (by simp)
    have q4 := hbm.cellAt (i := 4) (by simp)
    simp only at b0 b1 b2 b3 b4 b5 b6
    simp at q0 q1 q2 q3 q4
    by_cases hlt : a.a < m.ps.length
    case neg =>
      have HF : Hid (actN m a = -1) := Lib.hid (by rw [HFA.out, if_neg hlt])
      have hge : (n2 : Int) ≤ a.a := by (have := hlp.out; omega)
      clear hlt
      have Bz := Blk.keep HBz.out HE4.out
      have x0 := Bz.cellAt (i := 0) (by simp)
      have x1 := Bz.cellAt (i := 1) (by simp)
      have x2 := Bz.cellAt (i := 2) (by simp)
      have x3 := Bz.cellAt (i := 3) (by simp)
      have x4 := Bz.cellAt (i := 4) (by simp)
      have x5 := Bz.cellAt (i := 5) (by simp)
      have x6 := Bz.cellAt (i := 6) (by simp)
      have fz := Bz.free
      simp at x0 x1 x2 x3 x4 x5 x6
      have lz : w.heap.size + 1 + 1 < w4.heap.size := Bz.lt
      have y0 := HB64.out.cellAt (i := 0) (by simp)
      have y1 := HB64.out.cellAt (i := 1) (by simp)
      have y2 := HB64.out.cellAt (i := 2) (by simp)
      have y3 := HB64.out.cellAt (i := 3) (by simp)
      have y4 := HB64.out.cellAt (i := 4) (by simp)
      have y5 := HB64.out.cellAt (i := 5) (by simp)
      have y6 := HB64.out.cellAt (i := 6) (by simp)
      simp at y0 y1 y2 y3 y4 y5 y6
      go_wp2_with fail
      obtain ⟨b6', k6⟩ := store7 Bz (.int .i64 Hh1) (.slice A01 n01 c01) (.slice A11 n11 c11) (.slice A21 n21 c21) (.slice A31 n31 c31) (.int .i64 day1) (.slice A41 n41 c41)
      have hO6 := HO4.out.out k6 (by omega)
      have hE6 := k6.ext (HE.out.trans HE4.out) (by omega)
      generalize (((((((w4.setCell ⟨w.heap.size + 1 + 1, 0, none⟩ (.int .i64 Hh1)).setCell ⟨w.heap.size + 1 + 1, 1, none⟩ (.slice A01 n01 c01)).setCell ⟨w.heap.size + 1 + 1, 2, none⟩ (.slice A11 n11 c11)).setCell ⟨w.heap.size + 1 + 1, 3, none⟩ (.slice A21 n21 c21)).setCell ⟨w.heap.size + 1 + 1, 4, none⟩ (.slice A31 n31 c31)).setCell ⟨w.heap.size + 1 + 1, 5, none⟩ (.int .i64 day1)).setCell ⟨w.heap.size + 1 + 1, 6, none⟩ (.slice A41 n41 c41)) = w9 at b6' k6 hO6 hE6 ⊢
      have t0 := b6'.cellAt (i := 0) (by simp)
      have t1 := b6'.cellAt (i := 1) (by simp)
      have t2 := b6'.cellAt (i := 2) (by simp)
      have t3 := b6'.cellAt (i := 3) (by simp)
      have t4 := b6'.cellAt (i := 4) (by simp)
      have t5 := b6'.cellAt (i := 5) (by simp)
      have t6 := b6'.cellAt (i := 6) (by simp)
      simp at t0 t1 t2 t3 t4 t5 t6
      refine bodyPost_ret (v := .tuple #[MV.val ⟨Hh1, ⟨A01, n01, c01⟩, ⟨A11, n11, c11⟩, ⟨A21, n21, c21⟩, ⟨A31, n31, c31⟩, day1, ⟨A41, n41, c41⟩⟩, .int .i64 (-1)]) (by simp [results, Tryz.results12, go_sem, t0, t1, t2, t3, t4, t5, t6, MV.val, MV.cells]) rfl ?_
      exact ⟨_, (by rw [HF.out]), hE6, by rw [HM.out]; exact hO6.weak (by omega)⟩
    obtain ⟨j, hj⟩ := Int.eq_ofNat_of_zero_le ha0
    have hj2 : j < n2 := by (have := hlp.out; omega)
    obtain ⟨bp, op, p, hA2, hbp, hpk, r00⟩ := ienc_at hrw.out hj2
    have r0 := ((HE.out.trans HE4.out).cellAt bp hbp (op + j)).trans r00
    clear r00
    have HF : Hid (actN m a = p) := Lib.hid (by rw [HFA.out, if_pos hlt, hj]; simp [hpk])
    have hge : ¬ (n2 : Int) ≤ a.a := by omega
    have hge2 : a.a < (n2 : Int) := by omega
    rw [hj] at q1 hge hge2
    have HJ := Lib.hid hj
    subst hA2
    clear hlt hpk hj
    have Bz := Blk.keep HBz.out HE4.out
    have x0 := Bz.cellAt (i := 0) (by simp)
    have x1 := Bz.cellAt (i := 1) (by simp)
    have x2 := Bz.cellAt (i := 2) (by simp)
    have x3 := Bz.cellAt (i := 3) (by simp)
    have x4 := Bz.cellAt (i := 4) (by simp)
    have x5 := Bz.cellAt (i := 5) (by simp)
    have x6 := Bz.cellAt (i := 6) (by simp)
    have fz := Bz.free
    simp at x0 x1 x2 x3 x4 x5 x6
    have lz : w.heap.size + 1 + 1 < w4.heap.size := Bz.lt
    have y0 := HB64.out.cellAt (i := 0) (by simp)
    have y1 := HB64.out.cellAt (i := 1) (by simp)
    have y2 := HB64.out.cellAt (i := 2) (by simp)
    have y3 := HB64.out.cellAt (i := 3) (by simp)
    have y4 := HB64.out.cellAt (i := 4) (by simp)
    have y5 := HB64.out.cellAt (i := 5) (by simp)
    have y6 := HB64.out.cellAt (i := 6) (by simp)
    simp at y0 y1 y2 y3 y4 y5 y6
    have hbpn : bp ≠ w.heap.size + 1 + 1 := by omega
    have hbpm : w.heap.size + 1 + 1 ≠ bp := by omega
    have hwn : w.heap.size + 1 + 1 ≠ w.heap.size := by omega
    have ne7 : w1.heap.size ≠ w.heap.size + 1 + 1 := by omega
    have ne8 : w.heap.size + 1 + 1 ≠ w1.heap.size := by omega
    go_upto_region 17 with fail
    go_region_held3 (fun w' => w'.cell? ⟨w1.heap.size, 0, none⟩ = some (.int .i64 Hh1) ∧ w'.cell? ⟨w1.heap.size, 1, none⟩ = some (.slice A01 n01 c01) ∧ w'.cell? ⟨w1.heap.size, 2, none⟩ = some (.slice A11 n11 c11) ∧ w'.cell? ⟨w1.heap.size, 3, none⟩ = some (.slice A21 n21 c21) ∧ w'.cell? ⟨w1.heap.size, 4, none⟩ = some (.slice A31 n31 c31) ∧ w'.cell? ⟨w1.heap.size, 5, none⟩ = some (.int .i64 day1) ∧ w'.cell? ⟨w1.heap.size, 6, none⟩ = some (.slice A41 n41 c41) ∧ w'.cell? ⟨w.heap.size, 3, none⟩ = some (.slice (some ⟨bp, op, none⟩) n2 c2) ∧ w'.cell? ⟨w.heap.size + 1, 1, none⟩ = some (.int .i64 (j : Int)) ∧ w'.cell? ⟨bp, op + j, none⟩ = some (.int .i64 p)) (go_keep) (fail)
    go_wp2_with fail
    obtain ⟨b6', k6⟩ := store7 Bz (.int .i64 Hh1) (.slice A01 n01 c01) (.slice A11 n11 c11) (.slice A21 n21 c21) (.slice A31 n31 c31) (.int .i64 day1) (.slice A41 n41 c41)
    have hO6 := HO4.out.out k6 (by omega)
    have hE6 := k6.ext (HE.out.trans HE4.out) (by omega)
    generalize (((((((w4.setCell ⟨w.heap.size + 1 + 1, 0, none⟩ (.int .i64 Hh1)).setCell ⟨w.heap.size + 1 + 1, 1, none⟩ (.slice A01 n01 c01)).setCell ⟨w.heap.size + 1 + 1, 2, none⟩ (.slice A11 n11 c11)).setCell ⟨w.heap.size + 1 + 1, 3, none⟩ (.slice A21 n21 c21)).setCell ⟨w.heap.size + 1 + 1, 4, none⟩ (.slice A31 n31 c31)).setCell ⟨w.heap.size + 1 + 1, 5, none⟩ (.int .i64 day1)).setCell ⟨w.heap.size + 1 + 1, 6, none⟩ (.slice A41 n41 c41)) = w9 at b6' k6 hO6 hE6 ⊢
    have t0 := b6'.cellAt (i := 0) (by simp)
    have t1 := b6'.cellAt (i := 1) (by simp)
    have t2 := b6'.cellAt (i := 2) (by simp)
    have t3 := b6'.cellAt (i := 3) (by simp)
    have t4 := b6'.cellAt (i := 4) (by simp)
    have t5 := b6'.cellAt (i := 5) (by simp)
    have t6 := b6'.cellAt (i := 6) (by simp)
    simp at t0 t1 t2 t3 t4 t5 t6
    refine bodyPost_ret (v := .tuple #[MV.val ⟨Hh1, ⟨A01, n01, c01⟩, ⟨A11, n11, c11⟩, ⟨A21, n21, c21⟩, ⟨A31, n31, c31⟩, day1, ⟨A41, n41, c41⟩⟩, .int .i64 p]) (by simp [results, Tryz.results12, go_sem, t0, t1, t2, t3, t4, t5, t6, MV.val, MV.cells]) rfl ?_
    exact ⟨_, (by rw [HF.out]), hE6.drew, by rw [HM.out]; exact (hO6.keep (Ext.refl _).drew).weak (by omega)⟩
end Go.Proofs.YtfmifllcbbfpoaaGreatDoor
