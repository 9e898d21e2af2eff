/- Texts of one proof, laid one behind the other (SN5, SN6, SN7, SHj, MG, SN9, SNa, H7, H8, NM1); no condition but what stands at each theorem. -/
import Derived.Laws.IdiomStrings
import Derived.Lib.ItoaNum
import Derived.Test.YtfhibjehnoibeaaDoorZB
import Derived.Test.YtfhibjehnoibeaaDoorZC
import Derived.Test.YtfhibjehnoibeaaDoorZD
/- Contract of the reference's NextDays; no condition but what stands at each theorem. -/
namespace Go.Proofs.YtfhibjehnoibeaaDoor
set_option linter.unusedSimpArgs false
set_option linter.unusedVariables false
open Go.RowKit Go.Sort
set_option maxRecDepth 100000 in
set_option maxHeartbeats 4000000 in
theorem spec_NextDays (v : MV) (m : GMuseum) (d : Int) (w : World) (hx : MRd w v m) (hf : MFit v) : Calls Tryd.prog 56 #[v.val, .int .i64 d] w (MPost (daysM m d) (.bool (daysB m d)) w) := by
  obtain ⟨wb, hwb⟩ : ∃ wb, wb = w.alloc (.cells v.cells 30) := ⟨_, rfl⟩
  have hbx := MBox.new hwb
  have hE : Ext w wb := by rw [hwb]; exact (Ext.refl w).alloc _
  obtain ⟨wz, hwz⟩ : ∃ wz, wz = wb.alloc (.cells #[.int .i64 0, .slice none 0 0, .slice none 0 0, .slice none 0 0, .slice none 0 0, .int .i64 0, .slice none 0 0] 30) := ⟨_, rfl⟩
  have hEz : Ext wb wz := by rw [hwz]; exact (Ext.refl wb).alloc _
  have hsb : wb.heap.size = w.heap.size + 1 := by rw [hwb]; simp
  have hsz : wz.heap.size = w.heap.size + 1 + 1 := by rw [hwz]; simp [hsb]
  have HBz : Hid (Blk wz (w.heap.size + 1) 30 #[.int .i64 0, .slice none 0 0, .slice none 0 0, .slice none 0 0, .slice none 0 0, .int .i64 0, .slice none 0 0]) := Lib.hid (by rw [hwz, ← hsb]; exact Blk.new _ _ _)
  have HX := Lib.hid (hx.keep (hE.trans hEz))
  have HB := Lib.hid (hbx.keep hEz)
  have HE := Lib.hid (hE.trans hEz)
  have cC := Lib.hid (spec_l38Copy v m wz HX.out hf)
  have cM := Lib.hid (fun W (he : Ext wz W) => spec_MuseumOk v m W (HX.out.keep he))
  obtain ⟨Hh, ⟨A0, n0, c0⟩, ⟨A1, n1, c1⟩, ⟨A2, n2, c2⟩, ⟨A3, n3, c3⟩, day, ⟨A4, n4, c4⟩⟩ := v
  have Hwz : Hid (wz = (w.alloc (.cells #[.int .i64 Hh, .slice A0 n0 c0, .slice A1 n1 c1, .slice A2 n2 c2, .slice A3 n3 c3, .int .i64 day, .slice A4 n4 c4] 30)).alloc (.cells #[.int .i64 0, .slice none 0 0, .slice none 0 0, .slice none 0 0, .slice none 0 0, .int .i64 0, .slice none 0 0] 30)) := Lib.hid (by rw [hwz, hwb]; rfl)
  have hday : day = m.d := hx.ed
  subst hday
  have hzl : w.heap.size + 1 < wz.heap.size := by omega
  clear hwb hwz hbx hE hEz hx hf hsb hsz
  show Calls Tryd.prog 56 #[.agg #[.int .i64 Hh, .slice A0 n0 c0, .slice A1 n1 c1, .slice A2 n2 c2, .slice A3 n3 c3, .int .i64 m.d, .slice A4 n4 c4], .int .i64 d] w _
  obtain ⟨b0, b1, b2, b3, b4, b5, b6⟩ := HB.out.cell
  simp only at b0 b1 b2 b3 b4 b5 b6
  have Hb0 := Lib.hid b0
  rw [Hwz.out] at b0 b1 b2 b3 b4 b5 b6
  go_enter Tryd.func56, Tryd.ntmps56
  go_wp2_with (go_at_call 70; refine (fun h : Hid _ => h.out) ?_)
  unfold Hid
  rw [← Hwz.out]
  refine cC.out.mono ?_
  rintro e w1 ⟨v1, hev, he1, ho1⟩
  obtain ⟨Hh1, ⟨A01, n01, c01⟩, ⟨A11, n11, c11⟩, ⟨A21, n21, c21⟩, ⟨A31, n31, c31⟩, day1, ⟨A41, n41, c41⟩⟩ := v1
  simp only [MV.val, MV.cells] at hev
  subst hev
  have hd1 : day1 = m.d := ho1.ed
  subst hd1
  obtain ⟨w2, hw2⟩ : ∃ w2, w2 = w1.alloc (.cells #[.int .i64 Hh1, .slice A01 n01 c01, .slice A11 n11 c11, .slice A21 n21 c21, .slice A31 n31 c31, .int .i64 m.d, .slice A41 n41 c41] 30) := ⟨_, rfl⟩
  have hB6 : Blk w2 w1.heap.size 30 #[.int .i64 Hh1, .slice A01 n01 c01, .slice A11 n11 c11, .slice A21 n21 c21, .slice A31 n31 c31, .int .i64 m.d, .slice A41 n41 c41] := by rw [hw2]; exact Blk.new _ _ _
  have he2 : Ext w1 w2 := by rw [hw2]; exact (Ext.refl _).alloc _
  have HB6 := Lib.hid hB6
  have HAT1 := MAt.of_own ho1
  have HO2 := Lib.hid (ho1.keep he2)
  have HE2 := Lib.hid (he1.trans he2)
  have HW2 := Lib.hid hw2
  have hz2 : wz.heap.size ≤ w1.heap.size := he1.size
  have hs2 : w2.heap.size = w1.heap.size + 1 := by rw [hw2]; simp
  have cM2 := cM.out w2 HE2.out
  have HCM := Lib.hid cM2
  clear cM2 hB6 he2 ho1 he1 hw2 b0 b1 b2 b3 b4 b5 b6 cC cM
  obtain ⟨b0, b1, b2, b3, b4, b5, b6⟩ := (HB.out.keep HE2.out).cell
  simp only at b0 b1 b2 b3 b4 b5 b6
  rw [HW2.out] at b0 b1 b2 b3 b4 b5 b6
  go_wp2_with (go_at_call 71; refine (fun h : Hid _ => h.out) ?_)
  unfold Hid
  rw [← HW2.out]
  refine HCM.out.mono ?_
  rintro e w3 ⟨rfl, he3⟩
  have HE3 := Lib.hid (HE2.out.trans he3)
  have HO3 := Lib.hid (HO2.out.keep he3)
  have HB63 := Lib.hid (HB6.out.keep he3)
  have hz3 : w2.heap.size ≤ w3.heap.size := he3.size
  clear he3 b0 b1 b2 b3 b4 b5 b6 HCM
  have HAT := Lib.hid HAT1
  by_cases hm : museumB m = true
  case neg =>
    have hm' : museumB m = false := by simpa using hm
    have HF : Hid (daysB m d = false) := Lib.hid (by simp [daysB, hm'])
    have HM : Hid (daysM m d = m) := Lib.hid (by rw [daysM, HF.out]; rfl)
    rw [hm']
    clear hm hm'
    have Bz := Blk.keep HBz.out HE3.out
    have x0 := Bz.cellAt (i := 0) (by simp)
    have x1 := Bz.cellAt (i := 1) (by simp)
    have x2 := Bz.cellAt (i := 2) (by simp)
    have x3 := Bz.cellAt (i := 3) (by simp)
    have x4 := Bz.cellAt (i := 4) (by simp)
    have x5 := Bz.cellAt (i := 5) (by simp)
    have x6 := Bz.cellAt (i := 6) (by simp)
    have fz := Bz.free
    simp at x0 x1 x2 x3 x4 x5 x6
    have y0 := HB63.out.cellAt (i := 0) (by simp)
    have y1 := HB63.out.cellAt (i := 1) (by simp)
    have y2 := HB63.out.cellAt (i := 2) (by simp)
    have y3 := HB63.out.cellAt (i := 3) (by simp)
    have y4 := HB63.out.cellAt (i := 4) (by simp)
    have y5 := HB63.out.cellAt (i := 5) (by simp)
    have y6 := HB63.out.cellAt (i := 6) (by simp)
    simp at y0 y1 y2 y3 y4 y5 y6
    have lz : w.heap.size + 1 < w3.heap.size := Bz.lt
    go_wp2_with fail
    obtain ⟨b6', k6⟩ := store7 Bz (.int .i64 Hh1) (.slice A01 n01 c01) (.slice A11 n11 c11) (.slice A21 n21 c21) (.slice A31 n31 c31) (.int .i64 (m.d)) (.slice A41 n41 c41)
    have hO6 := HO3.out.out k6 (by omega)
    have hE6 := k6.ext (HE.out.trans HE3.out) (by omega)
    generalize (((((((w3.setCell ⟨w.heap.size + 1, 0, none⟩ (.int .i64 Hh1)).setCell ⟨w.heap.size + 1, 1, none⟩ (.slice A01 n01 c01)).setCell ⟨w.heap.size + 1, 2, none⟩ (.slice A11 n11 c11)).setCell ⟨w.heap.size + 1, 3, none⟩ (.slice A21 n21 c21)).setCell ⟨w.heap.size + 1, 4, none⟩ (.slice A31 n31 c31)).setCell ⟨w.heap.size + 1, 5, none⟩ (.int .i64 (m.d))).setCell ⟨w.heap.size + 1, 6, none⟩ (.slice A41 n41 c41)) = w6 at b6' k6 hO6 hE6 ⊢
    have t0 := b6'.cellAt (i := 0) (by simp)
    have t1 := b6'.cellAt (i := 1) (by simp)
    have t2 := b6'.cellAt (i := 2) (by simp)
    have t3 := b6'.cellAt (i := 3) (by simp)
    have t4 := b6'.cellAt (i := 4) (by simp)
    have t5 := b6'.cellAt (i := 5) (by simp)
    have t6 := b6'.cellAt (i := 6) (by simp)
    simp at t0 t1 t2 t3 t4 t5 t6
    refine bodyPost_ret (v := .tuple #[MV.val ⟨Hh1, ⟨A01, n01, c01⟩, ⟨A11, n11, c11⟩, ⟨A21, n21, c21⟩, ⟨A31, n31, c31⟩, m.d, ⟨A41, n41, c41⟩⟩, .bool false]) (by simp [results, Tryd.results56, go_sem, t0, t1, t2, t3, t4, t5, t6, MV.val, MV.cells]) rfl ?_
    exact ⟨_, (by rw [HF.out]), hE6, by rw [HM.out]; exact hO6.weak (by omega)⟩
  have hdd := museumB_d hm
  rw [hm]
  have cB := fun W => spec_l01In d 1 1000 W
  cases hi : inB d 1 1000
  case false =>
    have HF : Hid (daysB m d = false) := Lib.hid (by simp [daysB, hi])
    have HM : Hid (daysM m d = m) := Lib.hid (by rw [daysM, HF.out]; rfl)
    rw [hi] at cB
    clear hm hi
    go_wp2_with (go_at_call 72; refine (fun h : Hid _ => h.out) ?_)
    unfold Hid
    refine (cB _).mono ?_
    rintro e w4 ⟨rfl, rfl⟩
    clear cB
    have Bz := Blk.keep HBz.out HE3.out
    have x0 := Bz.cellAt (i := 0) (by simp)
    have x1 := Bz.cellAt (i := 1) (by simp)
    have x2 := Bz.cellAt (i := 2) (by simp)
    have x3 := Bz.cellAt (i := 3) (by simp)
    have x4 := Bz.cellAt (i := 4) (by simp)
    have x5 := Bz.cellAt (i := 5) (by simp)
    have x6 := Bz.cellAt (i := 6) (by simp)
    have fz := Bz.free
    simp at x0 x1 x2 x3 x4 x5 x6
    have y0 := HB63.out.cellAt (i := 0) (by simp)
    have y1 := HB63.out.cellAt (i := 1) (by simp)
    have y2 := HB63.out.cellAt (i := 2) (by simp)
    have y3 := HB63.out.cellAt (i := 3) (by simp)
    have y4 := HB63.out.cellAt (i := 4) (by simp)
    have y5 := HB63.out.cellAt (i := 5) (by simp)
    have y6 := HB63.out.cellAt (i := 6) (by simp)
    simp at y0 y1 y2 y3 y4 y5 y6
    have lz : w.heap.size + 1 < w3.heap.size := Bz.lt
    go_wp2_with fail
    obtain ⟨b6', k6⟩ := store7 Bz (.int .i64 Hh1) (.slice A01 n01 c01) (.slice A11 n11 c11) (.slice A21 n21 c21) (.slice A31 n31 c31) (.int .i64 (m.d)) (.slice A41 n41 c41)
    have hO6 := HO3.out.out k6 (by omega)
    have hE6 := k6.ext (HE.out.trans HE3.out) (by omega)
    generalize (((((((w3.setCell ⟨w.heap.size + 1, 0, none⟩ (.int .i64 Hh1)).setCell ⟨w.heap.size + 1, 1, none⟩ (.slice A01 n01 c01)).setCell ⟨w.heap.size + 1, 2, none⟩ (.slice A11 n11 c11)).setCell ⟨w.heap.size + 1, 3, none⟩ (.slice A21 n21 c21)).setCell ⟨w.heap.size + 1, 4, none⟩ (.slice A31 n31 c31)).setCell ⟨w.heap.size + 1, 5, none⟩ (.int .i64 (m.d))).setCell ⟨w.heap.size + 1, 6, none⟩ (.slice A41 n41 c41)) = w6 at b6' k6 hO6 hE6 ⊢
    have t0 := b6'.cellAt (i := 0) (by simp)
    have t1 := b6'.cellAt (i := 1) (by simp)
    have t2 := b6'.cellAt (i := 2) (by simp)
    have t3 := b6'.cellAt (i := 3) (by simp)
    have t4 := b6'.cellAt (i := 4) (by simp)
    have t5 := b6'.cellAt (i := 5) (by simp)
    have t6 := b6'.cellAt (i := 6) (by simp)
    simp at t0 t1 t2 t3 t4 t5 t6
    refine bodyPost_ret (v := .tuple #[MV.val ⟨Hh1, ⟨A01, n01, c01⟩, ⟨A11, n11, c11⟩, ⟨A21, n21, c21⟩, ⟨A31, n31, c31⟩, m.d, ⟨A41, n41, c41⟩⟩, .bool false]) (by simp [results, Tryd.results56, go_sem, t0, t1, t2, t3, t4, t5, t6, MV.val, MV.cells]) rfl ?_
    exact ⟨_, (by rw [HF.out]), hE6, by rw [HM.out]; exact hO6.weak (by omega)⟩
  have hd2 : 1 ≤ d ∧ d ≤ 1000 := by simpa [inB] using hi
  rw [hi] at cB
  have y5 := HB63.out.cellAt (i := 5) (by simp)
  obtain ⟨b0, b1, b2, b3, b4, b5, b6⟩ := (HB.out.keep HE3.out).cell
  simp only at b0 b1 b2 b3 b4 b5 b6
  simp at y5
  by_cases hs : m.d + d ≤ 1000000
  case neg =>
    have HF : Hid (daysB m d = false) := Lib.hid (by simp [daysB, hs])
    have HM : Hid (daysM m d = m) := Lib.hid (by rw [daysM, HF.out]; rfl)
    have hs2 : 1000000 < m.d + d := by omega
    clear hm hi hs y5
    go_wp2_with (go_at_call 72; refine (fun h : Hid _ => h.out) ?_)
    unfold Hid
    refine (cB _).mono ?_
    rintro e w4 ⟨rfl, rfl⟩
    clear cB
    have Bz := Blk.keep HBz.out HE3.out
    have x0 := Bz.cellAt (i := 0) (by simp)
    have x1 := Bz.cellAt (i := 1) (by simp)
    have x2 := Bz.cellAt (i := 2) (by simp)
    have x3 := Bz.cellAt (i := 3) (by simp)
    have x4 := Bz.cellAt (i := 4) (by simp)
    have x5 := Bz.cellAt (i := 5) (by simp)
    have x6 := Bz.cellAt (i := 6) (by simp)
    have fz := Bz.free
    simp at x0 x1 x2 x3 x4 x5 x6
    have y0 := HB63.out.cellAt (i := 0) (by simp)
    have y1 := HB63.out.cellAt (i := 1) (by simp)
    have y2 := HB63.out.cellAt (i := 2) (by simp)
    have y3 := HB63.out.cellAt (i := 3) (by simp)
    have y4 := HB63.out.cellAt (i := 4) (by simp)
    have y5 := HB63.out.cellAt (i := 5) (by simp)
    have y6 := HB63.out.cellAt (i := 6) (by simp)
    simp at y0 y1 y2 y3 y4 y5 y6
    have lz : w.heap.size + 1 < w3.heap.size := Bz.lt
    go_wp2_with fail
    obtain ⟨b6', k6⟩ := store7 Bz (.int .i64 Hh1) (.slice A01 n01 c01) (.slice A11 n11 c11) (.slice A21 n21 c21) (.slice A31 n31 c31) (.int .i64 (m.d)) (.slice A41 n41 c41)
    have hO6 := HO3.out.out k6 (by omega)
    have hE6 := k6.ext (HE.out.trans HE3.out) (by omega)
    generalize (((((((w3.setCell ⟨w.heap.size + 1, 0, none⟩ (.int .i64 Hh1)).setCell ⟨w.heap.size + 1, 1, none⟩ (.slice A01 n01 c01)).setCell ⟨w.heap.size + 1, 2, none⟩ (.slice A11 n11 c11)).setCell ⟨w.heap.size + 1, 3, none⟩ (.slice A21 n21 c21)).setCell ⟨w.heap.size + 1, 4, none⟩ (.slice A31 n31 c31)).setCell ⟨w.heap.size + 1, 5, none⟩ (.int .i64 (m.d))).setCell ⟨w.heap.size + 1, 6, none⟩ (.slice A41 n41 c41)) = w6 at b6' k6 hO6 hE6 ⊢
    have t0 := b6'.cellAt (i := 0) (by simp)
    have t1 := b6'.cellAt (i := 1) (by simp)
    have t2 := b6'.cellAt (i := 2) (by simp)
    have t3 := b6'.cellAt (i := 3) (by simp)
    have t4 := b6'.cellAt (i := 4) (by simp)
    have t5 := b6'.cellAt (i := 5) (by simp)
    have t6 := b6'.cellAt (i := 6) (by simp)
    simp at t0 t1 t2 t3 t4 t5 t6
    refine bodyPost_ret (v := .tuple #[MV.val ⟨Hh1, ⟨A01, n01, c01⟩, ⟨A11, n11, c11⟩, ⟨A21, n21, c21⟩, ⟨A31, n31, c31⟩, m.d, ⟨A41, n41, c41⟩⟩, .bool false]) (by simp [results, Tryd.results56, go_sem, t0, t1, t2, t3, t4, t5, t6, MV.val, MV.cells]) rfl ?_
    exact ⟨_, (by rw [HF.out]), hE6, by rw [HM.out]; exact hO6.weak (by omega)⟩
  case pos =>
    have HF : Hid (daysB m d = true) := Lib.hid (by simp [daysB, hs, hi, hm])
    have HM : Hid (daysM m d = { m with d := m.d + d }) := Lib.hid (by rw [daysM, HF.out]; rfl)
    have hs2 : ¬ 1000000 < m.d + d := by omega
    have f5 := HB63.out.free 5
    have l6 := HB63.out.lt
    clear hm hi hs
    go_wp2_with (go_at_call 72; refine (fun h : Hid _ => h.out) ?_)
    unfold Hid
    refine (cB _).mono ?_
    rintro e w4 ⟨rfl, rfl⟩
    clear cB
    go_upto_region 5 with fail
    have hk := KeptOut.of_grown (lo := w1.heap.size) (hi := w1.heap.size + 1) (grown_set (grown_refl w3 (some w1.heap.size)) 5 (.int .i64 (m.d + d))) (fun k hk => by injection hk with hk; omega)
    have hb7 := HB63.out.set 5 (.int .i64 (m.d + d))
    simp only [List.setIfInBounds_toArray, List.set_cons_succ, List.set_cons_zero] at hb7
    have ho7 := (HO3.out.below hk HAT.out).day (m.d + d)
    have he7 := hk.ext HE3.out hz2
    generalize w3.setCell ⟨w1.heap.size, 5, none⟩ (.int .i64 (m.d + d)) = w7 at hk hb7 ho7 he7 ⊢
    have HB7 := Lib.hid hb7
    have HO7 := Lib.hid ho7
    have HE7 := Lib.hid he7
    clear hk hb7 ho7 he7 y5 f5 l6 b0 b1 b2 b3 b4 b5 b6
    have Bz := Blk.keep HBz.out HE7.out
    have x0 := Bz.cellAt (i := 0) (by simp)
    have x1 := Bz.cellAt (i := 1) (by simp)
    have x2 := Bz.cellAt (i := 2) (by simp)
    have x3 := Bz.cellAt (i := 3) (by simp)
    have x4 := Bz.cellAt (i := 4) (by simp)
    have x5 := Bz.cellAt (i := 5) (by simp)
    have x6 := Bz.cellAt (i := 6) (by simp)
    have fz := Bz.free
    simp at x0 x1 x2 x3 x4 x5 x6
    have y0 := HB7.out.cellAt (i := 0) (by simp)
    have y1 := HB7.out.cellAt (i := 1) (by simp)
    have y2 := HB7.out.cellAt (i := 2) (by simp)
    have y3 := HB7.out.cellAt (i := 3) (by simp)
    have y4 := HB7.out.cellAt (i := 4) (by simp)
    have y5 := HB7.out.cellAt (i := 5) (by simp)
    have y6 := HB7.out.cellAt (i := 6) (by simp)
    simp at y0 y1 y2 y3 y4 y5 y6
    have lz : w.heap.size + 1 < w7.heap.size := Bz.lt
    go_wp2_with fail
    obtain ⟨b6', k6⟩ := store7 Bz (.int .i64 Hh1) (.slice A01 n01 c01) (.slice A11 n11 c11) (.slice A21 n21 c21) (.slice A31 n31 c31) (.int .i64 (m.d + d)) (.slice A41 n41 c41)
    have hO6 := HO7.out.out k6 (by omega)
    have hE6 := k6.ext (HE.out.trans HE7.out) (by omega)
    generalize (((((((w7.setCell ⟨w.heap.size + 1, 0, none⟩ (.int .i64 Hh1)).setCell ⟨w.heap.size + 1, 1, none⟩ (.slice A01 n01 c01)).setCell ⟨w.heap.size + 1, 2, none⟩ (.slice A11 n11 c11)).setCell ⟨w.heap.size + 1, 3, none⟩ (.slice A21 n21 c21)).setCell ⟨w.heap.size + 1, 4, none⟩ (.slice A31 n31 c31)).setCell ⟨w.heap.size + 1, 5, none⟩ (.int .i64 (m.d + d))).setCell ⟨w.heap.size + 1, 6, none⟩ (.slice A41 n41 c41)) = w6 at b6' k6 hO6 hE6 ⊢
    have t0 := b6'.cellAt (i := 0) (by simp)
    have t1 := b6'.cellAt (i := 1) (by simp)
    have t2 := b6'.cellAt (i := 2) (by simp)
    have t3 := b6'.cellAt (i := 3) (by simp)
    have t4 := b6'.cellAt (i := 4) (by simp)
    have t5 := b6'.cellAt (i := 5) (by simp)
    have t6 := b6'.cellAt (i := 6) (by simp)
    simp at t0 t1 t2 t3 t4 t5 t6
    refine bodyPost_ret (v := .tuple #[MV.val ⟨Hh1, ⟨A01, n01, c01⟩, ⟨A11, n11, c11⟩, ⟨A21, n21, c21⟩, ⟨A31, n31, c31⟩, m.d + d, ⟨A41, n41, c41⟩⟩, .bool true]) (by simp [results, Tryd.results56, go_sem, t0, t1, t2, t3, t4, t5, t6, MV.val, MV.cells]) rfl ?_
    exact ⟨_, (by rw [HF.out]), hE6, by rw [HM.out]; exact hO6.weak (by omega)⟩
end Go.Proofs.YtfhibjehnoibeaaDoor
/- Contract of the program's NewMuseum; no condition but what stands at each theorem. -/
namespace Go.Proofs.YtfhibjehnoibeaaDoor
set_option linter.unusedSimpArgs false
set_option linter.unusedVariables false
open Go.RowKit Go.Sort
def rawM (H : Int) (ds : List GDoor) (ps gs : List Int) : GMuseum := ⟨H, ds, ps, ps, gs, 0, []⟩
def newM (H : Int) (ds : List GDoor) (ps gs : List Int) : GMuseum := if museumB (rawM H ds ps gs) then rawM H ds ps gs else ⟨0, [], [], [], [], 0, []⟩
theorem zero_own (w : World) (base : Nat) : MOwn w base (⟨0, ⟨none, 0, 0⟩, ⟨none, 0, 0⟩, ⟨none, 0, 0⟩, ⟨none, 0, 0⟩, 0, ⟨none, 0, 0⟩⟩ : MV) ⟨0, [], [], [], [], 0, []⟩ :=
  ⟨rfl, rfl, World.ownsRow_nil _ _ _ _, World.ownsRow_nil _ _ _ _, World.ownsRow_nil _ _ _ _, World.ownsRow_nil _ _ _ _, World.ownsRow_nil _ _ _ _, apart5 (apart_nil _) (apart_nil _) (apart_nil _) (apart_nil _) (apart_nil _) (apart_nil _) (apart_nil _) (apart_nil _) (apart_nil _) (apart_nil _)⟩
end Go.Proofs.YtfhibjehnoibeaaDoor
/- Contract of the reference's NewMuseum; no condition but what stands at each theorem. -/
namespace Go.Proofs.YtfhibjehnoibeaaDoor
set_option linter.unusedSimpArgs false
set_option linter.unusedVariables false
open Go.RowKit Go.Sort
set_option maxRecDepth 100000 in
set_option maxHeartbeats 4000000 in
theorem spec_NewMuseum (H : Int) (A0 : Option Addr) (n0 c0 : Nat) (ds : List GDoor) (A1 : Option Addr) (n1 c1 : Nat) (ps : List Int) (A2 : Option Addr) (n2 c2 : Nat) (gs : List Int) (w : World)
    (hx : Rd w 2 A0 n0 (ds.flatMap GDoor.enc)) (hx1 : Rd w 1 A1 n1 (ps.flatMap ienc)) (hx2 : Rd w 1 A2 n2 (gs.flatMap ienc)) (z0 : A0 = none → c0 = 0) (z1 : A1 = none → c1 = 0) (z2 : A2 = none → c2 = 0) (l0 : n0 ≤ 1048576) (l1 : n1 ≤ 1048576) (l2 : n2 ≤ 1048576) :
    Calls Tryd.prog 55 #[.agg #[.int .i64 H, .slice A0 n0 c0], .slice A1 n1 c1, .slice A2 n2 c2] w (MPost (newM H ds ps gs) (.bool (museumB (rawM H ds ps gs))) w) := by
  obtain ⟨wb, hwb⟩ : ∃ wb, wb = w.alloc (.cells #[.int .i64 H, .slice A0 n0 c0] 26) := ⟨_, rfl⟩
  obtain ⟨hE, hsb, k0, k1⟩ := box2 w _ _ _ wb hwb
  obtain ⟨wz, hwz⟩ : ∃ wz, wz = wb.alloc (.cells #[.int .i64 0, .slice none 0 0, .slice none 0 0, .slice none 0 0, .slice none 0 0, .int .i64 0, .slice none 0 0] 30) := ⟨_, rfl⟩
  have hEz : Ext wb wz := by rw [hwz]; exact (Ext.refl wb).alloc _
  have hsz : wz.heap.size = w.heap.size + 1 + 1 := by rw [hwz]; simp [hsb]
  have HBz : Hid (Blk wz (w.heap.size + 1) 30 #[.int .i64 0, .slice none 0 0, .slice none 0 0, .slice none 0 0, .slice none 0 0, .int .i64 0, .slice none 0 0]) := Lib.hid (by rw [hwz, ← hsb]; exact Blk.new _ _ _)
  have hr : MRd wz (⟨H, ⟨A0, n0, c0⟩, ⟨A1, n1, c1⟩, ⟨A1, n1, c1⟩, ⟨A2, n2, c2⟩, 0, ⟨none, 0, 0⟩⟩ : MV) (rawM H ds ps gs) := ⟨rfl, rfl, hx.keep (hE.trans hEz), hx1.keep (hE.trans hEz), hx1.keep (hE.trans hEz), hx2.keep (hE.trans hEz), Rd.nil _ _⟩
  have cC := Lib.hid (spec_l38Copy _ _ wz hr ⟨z0, z1, z1, z2, fun _ => rfl, l0, l1, l1, l2, Nat.zero_le _⟩)
  have HE := Lib.hid (hE.trans hEz)
  have Hwz : Hid (wz = (w.alloc (.cells #[.int .i64 H, .slice A0 n0 c0] 26)).alloc (.cells #[.int .i64 0, .slice none 0 0, .slice none 0 0, .slice none 0 0, .slice none 0 0, .int .i64 0, .slice none 0 0] 30)) := Lib.hid (by rw [hwz, hwb])
  have hzl : w.heap.size + 1 < wz.heap.size := by omega
  clear hwb hwz hE hEz hx hx1 hx2 hsb hsz k0 k1 hr z0 z1 z2
  obtain ⟨mm, hmm⟩ : ∃ mm, mm = rawM H ds ps gs := ⟨_, rfl⟩
  have HMM := Lib.hid hmm
  rw [← hmm] at cC
  go_enter Tryd.func55, Tryd.ntmps55
  go_wp2_with (go_at_call 70; refine (fun h : Hid _ => h.out) ?_)
  unfold Hid
  rw [← Hwz.out]
  refine cC.out.mono ?_
  rintro e w1 ⟨v1, hev, he1, ho1⟩
  obtain ⟨H1, ⟨A01, n01, c01⟩, ⟨A11, n11, c11⟩, ⟨A21, n21, c21⟩, ⟨A31, n31, c31⟩, day1, ⟨A41, n41, c41⟩⟩ := v1
  simp only [MV.val, MV.cells] at hev
  subst hev
  obtain ⟨w2, hw2⟩ : ∃ w2, w2 = w1.alloc (.cells #[.int .i64 H1, .slice A01 n01 c01, .slice A11 n11 c11, .slice A21 n21 c21, .slice A31 n31 c31, .int .i64 day1, .slice A41 n41 c41] 30) := ⟨_, rfl⟩
  have hB6 : Blk w2 w1.heap.size 30 #[.int .i64 H1, .slice A01 n01 c01, .slice A11 n11 c11, .slice A21 n21 c21, .slice A31 n31 c31, .int .i64 day1, .slice A41 n41 c41] := by rw [hw2]; exact Blk.new _ _ _
  have he2 : Ext w1 w2 := by rw [hw2]; exact (Ext.refl _).alloc _
  have HB6 := Lib.hid hB6
  have HO2 := Lib.hid (ho1.keep he2)
  have HE2 := Lib.hid (he1.trans he2)
  have HW2 := Lib.hid hw2
  have HCM := Lib.hid (spec_MuseumOk _ _ w2 HO2.out.rd)
  clear hB6 he2 ho1 he1 hw2 cC
  go_wp2_with (go_at_call 71; refine (fun h : Hid _ => h.out) ?_)
  unfold Hid
  rw [← HW2.out]
  refine HCM.out.mono ?_
  rintro e w3 ⟨rfl, he3⟩
  have HE3 := Lib.hid (HE2.out.trans he3)
  have HO3 := Lib.hid (HO2.out.keep he3)
  have HB63 := Lib.hid (HB6.out.keep he3)
  clear he3 HCM
  rw [HMM.out]
  have HO3 : Hid (MOwn w3 wz.heap.size (⟨H1, ⟨A01, n01, c01⟩, ⟨A11, n11, c11⟩, ⟨A21, n21, c21⟩, ⟨A31, n31, c31⟩, day1, ⟨A41, n41, c41⟩⟩ : MV) (rawM H ds ps gs)) := by rw [← HMM.out]; exact HO3
  cases hm : museumB (rawM H ds ps gs)
  case false =>
    have HF : Hid (museumB (rawM H ds ps gs) = false) := Lib.hid hm
    have HM : Hid (newM H ds ps gs = ⟨0, [], [], [], [], 0, []⟩) := Lib.hid (by rw [newM, hm]; rfl)
    clear hm hmm
    have Bz := Blk.keep HBz.out HE3.out
    have x0 := Bz.cellAt (i := 0) (by simp)
    have x1 := Bz.cellAt (i := 1) (by simp)
    have x2 := Bz.cellAt (i := 2) (by simp)
    have x3 := Bz.cellAt (i := 3) (by simp)
    have x4 := Bz.cellAt (i := 4) (by simp)
    have x5 := Bz.cellAt (i := 5) (by simp)
    have x6 := Bz.cellAt (i := 6) (by simp)
    have fz := Bz.free
    simp at x0 x1 x2 x3 x4 x5 x6
    have lz : w.heap.size + 1 < w3.heap.size := Bz.lt
    go_wp2_with fail
    obtain ⟨b6', k6⟩ := store7 Bz (.int .i64 0) (.slice none 0 0) (.slice none 0 0) (.slice none 0 0) (.slice none 0 0) (.int .i64 0) (.slice none 0 0)
    have hE6 := k6.ext (HE.out.trans HE3.out) (by omega)
    have hO6 : True := trivial
    generalize (((((((w3.setCell ⟨w.heap.size + 1, 0, none⟩ (.int .i64 0)).setCell ⟨w.heap.size + 1, 1, none⟩ (.slice none 0 0)).setCell ⟨w.heap.size + 1, 2, none⟩ (.slice none 0 0)).setCell ⟨w.heap.size + 1, 3, none⟩ (.slice none 0 0)).setCell ⟨w.heap.size + 1, 4, none⟩ (.slice none 0 0)).setCell ⟨w.heap.size + 1, 5, none⟩ (.int .i64 0)).setCell ⟨w.heap.size + 1, 6, none⟩ (.slice none 0 0)) = w6 at b6' k6 hO6 hE6 ⊢
    have t0 := b6'.cellAt (i := 0) (by simp)
    have t1 := b6'.cellAt (i := 1) (by simp)
    have t2 := b6'.cellAt (i := 2) (by simp)
    have t3 := b6'.cellAt (i := 3) (by simp)
    have t4 := b6'.cellAt (i := 4) (by simp)
    have t5 := b6'.cellAt (i := 5) (by simp)
    have t6 := b6'.cellAt (i := 6) (by simp)
    simp at t0 t1 t2 t3 t4 t5 t6
    refine bodyPost_ret (v := .tuple #[MV.val ⟨0, ⟨none, 0, 0⟩, ⟨none, 0, 0⟩, ⟨none, 0, 0⟩, ⟨none, 0, 0⟩, 0, ⟨none, 0, 0⟩⟩, .bool false]) (by simp [results, Tryd.results55, go_sem, t0, t1, t2, t3, t4, t5, t6, MV.val, MV.cells]) rfl ?_
    exact ⟨_, (by rw [HF.out]), hE6, by rw [HM.out]; exact zero_own _ _⟩
  case true =>
    have HF : Hid (museumB (rawM H ds ps gs) = true) := Lib.hid hm
    have HM : Hid (newM H ds ps gs = rawM H ds ps gs) := Lib.hid (by rw [newM, hm]; rfl)
    clear hm hmm
    have Bz := Blk.keep HBz.out HE3.out
    have x0 := Bz.cellAt (i := 0) (by simp)
    have x1 := Bz.cellAt (i := 1) (by simp)
    have x2 := Bz.cellAt (i := 2) (by simp)
    have x3 := Bz.cellAt (i := 3) (by simp)
    have x4 := Bz.cellAt (i := 4) (by simp)
    have x5 := Bz.cellAt (i := 5) (by simp)
    have x6 := Bz.cellAt (i := 6) (by simp)
    have fz := Bz.free
    simp at x0 x1 x2 x3 x4 x5 x6
    have y0 := HB63.out.cellAt (i := 0) (by simp)
    have y1 := HB63.out.cellAt (i := 1) (by simp)
    have y2 := HB63.out.cellAt (i := 2) (by simp)
    have y3 := HB63.out.cellAt (i := 3) (by simp)
    have y4 := HB63.out.cellAt (i := 4) (by simp)
    have y5 := HB63.out.cellAt (i := 5) (by simp)
    have y6 := HB63.out.cellAt (i := 6) (by simp)
    simp at y0 y1 y2 y3 y4 y5 y6
    have lz : w.heap.size + 1 < w3.heap.size := Bz.lt
    go_wp2_with fail
    obtain ⟨b6', k6⟩ := store7 Bz (.int .i64 H1) (.slice A01 n01 c01) (.slice A11 n11 c11) (.slice A21 n21 c21) (.slice A31 n31 c31) (.int .i64 day1) (.slice A41 n41 c41)
    have hE6 := k6.ext (HE.out.trans HE3.out) (by omega)
    have hO6 := (HO3.out.out k6 (by omega)).weak (show w.heap.size ≤ wz.heap.size by omega)
    generalize (((((((w3.setCell ⟨w.heap.size + 1, 0, none⟩ (.int .i64 H1)).setCell ⟨w.heap.size + 1, 1, none⟩ (.slice A01 n01 c01)).setCell ⟨w.heap.size + 1, 2, none⟩ (.slice A11 n11 c11)).setCell ⟨w.heap.size + 1, 3, none⟩ (.slice A21 n21 c21)).setCell ⟨w.heap.size + 1, 4, none⟩ (.slice A31 n31 c31)).setCell ⟨w.heap.size + 1, 5, none⟩ (.int .i64 day1)).setCell ⟨w.heap.size + 1, 6, none⟩ (.slice A41 n41 c41)) = w6 at b6' k6 hO6 hE6 ⊢
    have t0 := b6'.cellAt (i := 0) (by simp)
    have t1 := b6'.cellAt (i := 1) (by simp)
    have t2 := b6'.cellAt (i := 2) (by simp)
    have t3 := b6'.cellAt (i := 3) (by simp)
    have t4 := b6'.cellAt (i := 4) (by simp)
    have t5 := b6'.cellAt (i := 5) (by simp)
    have t6 := b6'.cellAt (i := 6) (by simp)
    simp at t0 t1 t2 t3 t4 t5 t6
    refine bodyPost_ret (v := .tuple #[MV.val ⟨H1, ⟨A01, n01, c01⟩, ⟨A11, n11, c11⟩, ⟨A21, n21, c21⟩, ⟨A31, n31, c31⟩, day1, ⟨A41, n41, c41⟩⟩, .bool true]) (by simp [results, Tryd.results55, go_sem, t0, t1, t2, t3, t4, t5, t6, MV.val, MV.cells]) rfl ?_
    exact ⟨_, (by rw [HF.out]), hE6, by rw [HM.out]; exact hO6⟩
end Go.Proofs.YtfhibjehnoibeaaDoor
/- Contracts of slices.Index and Contains on doors, HasDoor, canGo and the closure of CanMove; no condition but what stands at each theorem. -/
namespace Go.Proofs.YtfhibjehnoibeaaDoor
set_option linter.unusedSimpArgs false
set_option linter.unusedVariables false
open Go.RowKit Go.Sort
def dEq (p q : Int) (d : GDoor) : Bool := (d.a == p) && (d.b == q)
set_option maxRecDepth 100000 in
set_option maxHeartbeats 1000000 in
theorem shelf_IndexD (A : Option Addr) (n c : Nat) (ds : List GDoor) (p q : Int) (w : World) (hx : Rd w 2 A n (ds.flatMap GDoor.enc)) :
    Calls Tryd.prog 82 #[.slice A n c, .agg #[.int .i64 p, .int .i64 q]] w fun e w' => ∃ r : Int, e = .returned (.int .i64 r) ∧ decide (0 ≤ r) = ds.any (dEq p q) ∧ Ext w w' := by
  have hn := hx.2.1
  have hl := Lib.hid (hx.len GDoor.len (by omega))
  obtain ⟨wb, hwb⟩ : ∃ wb, wb = w.alloc (.cells #[.int .i64 p, .int .i64 q] 96) := ⟨_, rfl⟩
  obtain ⟨hE, hsb, k0, k1⟩ := box2 w _ _ _ wb hwb
  have HE := Lib.hid hE
  have Hwb := Lib.hid hwb
  have Hk0 := Lib.hid k0
  have Hk1 := Lib.hid k1
  have hxb := Lib.hid (hx.keep hE)
  have hbl : w.heap.size < wb.heap.size := by omega
  clear hE hsb hwb k0 k1 hx
  go_enter Tryd.func82, Tryd.ntmps82
  go_wp2_with fail
  rw [← Hwb.out]
  go_loopw [8] (fun i wr => ∃ k : Nat, k ≤ n ∧ i = .int .i64 k ∧ Hid (ds.any (dEq p q) = (ds.drop k).any (dEq p q)) ∧ Ext wb wr) (fun i _ => n - (intOf i).toNat)
  case atStart => exact ⟨0, Nat.zero_le _, rfl, rfl, Ext.refl _⟩
  case round =>
    obtain ⟨k, hk, rfl, hz, hb⟩ := hrel
    have r0 := (hb.cellAt w.heap.size hbl 0).trans Hk0.out
    have r1 := (hb.cellAt w.heap.size hbl 1).trans Hk1.out
    by_cases hlt : k < n
    · obtain ⟨b, off, d, rfl, hbs, hdk, h0, h1⟩ := GDoor.at_ (hxb.out.keep hb) hlt
      have HD := Lib.hid (drop_cons hdk)
      have HB := Lib.hid hb
      clear hdk hb
      by_cases ea : p = d.a
      case neg =>
        have hdo : Hid (dEq p q d = false) := by unfold Hid dEq; rw [beq_eq_false_iff_ne.2 (Ne.symm ea)]; rfl
        go_wp2_with fail
        go_quiet (fail)
        go_wp2_with fail
        go_roundw
        case rel => exact ⟨k + 1, by omega, by go_num, by unfold Hid; rw [hz.out, HD.out, List.any_cons, hdo.out]; rfl, HB.out.drewN _⟩
        case measure => simp [intOf]; omega
      by_cases eb : q = d.b
      case neg =>
        have hdo : Hid (dEq p q d = false) := by unfold Hid dEq; rw [beq_eq_false_iff_ne.2 (Ne.symm eb), Bool.and_false]
        go_wp2_with fail
        go_quiet (fail)
        go_wp2_with fail
        go_roundw
        case rel => exact ⟨k + 1, by omega, by go_num, by unfold Hid; rw [hz.out, HD.out, List.any_cons, hdo.out]; rfl, HB.out.drewN _⟩
        case measure => simp [intOf]; omega
      have hdo : Hid (dEq p q d = true) := by unfold Hid dEq; rw [ea, eb]; simp
      go_wp2_with fail
      go_quiet (fail)
      go_wp2_with fail
      go_ret
      exact ⟨k, rfl, by rw [hz.out, HD.out, List.any_cons, hdo.out]; simp, HE.out.trans (HB.out.drewN _)⟩
    · obtain rfl : k = n := by omega
      go_wp2_with fail
      go_ret
      exact ⟨-1, rfl, by rw [hz.out, drop_nil (by rw [hl.out]; omega)]; rfl, HE.out.trans hb⟩
theorem shelf_ContainsD (A : Option Addr) (n c : Nat) (ds : List GDoor) (p q : Int) (w : World) (hx : Rd w 2 A n (ds.flatMap GDoor.enc)) :
    Calls Tryd.prog 64 #[.slice A n c, .agg #[.int .i64 p, .int .i64 q]] w fun e w' => e = .returned (.bool (ds.any (dEq p q))) ∧ Ext w w' := by
  obtain ⟨wb, hwb⟩ : ∃ wb, wb = w.alloc (.cells #[.int .i64 p, .int .i64 q] 96) := ⟨_, rfl⟩
  obtain ⟨hE, hsb, k0, k1⟩ := box2 w _ _ _ wb hwb
  have HE := Lib.hid hE
  have Hwb := Lib.hid hwb
  have HC := Lib.hid (shelf_IndexD A n c ds p q wb (hx.keep hE))
  clear hE hsb hwb k0 k1 hx
  go_enter Tryd.func64, Tryd.ntmps64
  go_wp2_with fail
  rw [← Hwb.out]
  refine HC.out.mono ?_
  rintro e w1 ⟨r, rfl, hr, he1⟩
  have HR := Lib.hid hr
  have HE1 := Lib.hid he1
  clear hr he1
  go_wp2_with fail
  go_ret
  exact ⟨ret_bool (by rw [← HR.out]), HE.out.trans HE1.out⟩
def hasDoorB (H : Int) (ds : List GDoor) (x y : Int) : Bool := houseB H ds && doorB ds x y
set_option maxRecDepth 100000 in
set_option maxHeartbeats 1000000 in
theorem impl_HasDoor (H : Int) (A : Option Addr) (n c : Nat) (ds : List GDoor) (x y : Int) (w : World) (hx : Rd w 2 A n (ds.flatMap GDoor.enc)) :
    Calls Tryd.prog 51 #[.agg #[.int .i64 H, .slice A n c], .int .i64 x, .int .i64 y] w fun e w' => e = .returned (.bool (hasDoorB H ds x y)) ∧ Ext w w' := by
  have hmin := @run_imin Tryd.prog
  have hmax := @run_imax Tryd.prog
  obtain ⟨wb, hwb⟩ : ∃ wb, wb = w.alloc (.cells #[.int .i64 H, .slice A n c] 26) := ⟨_, rfl⟩
  obtain ⟨hE, hsb, k0, k1⟩ := box2 w _ _ _ wb hwb
  have HE := Lib.hid hE
  have Hwb := Lib.hid hwb
  have Hk1 := Lib.hid k1
  have hbl : w.heap.size < wb.heap.size := by omega
  have hxb := Lib.hid (hx.keep hE)
  have HC := Lib.hid (impl_HouseOk H A n c ds wb hxb.out)
  clear hE hsb hx k0 k1 hwb
  cases hB : houseB H ds
  case false =>
    rw [hB] at HC
    have HF : Hid (hasDoorB H ds x y = false) := by unfold Hid hasDoorB; rw [hB]; rfl
    clear hB
    go_enter Tryd.func51, Tryd.ntmps51
    go_wp2_with fail
    rw [← Hwb.out]
    refine HC.out.mono ?_
    rintro e w1 ⟨rfl, he1⟩
    have HE1 := Lib.hid he1
    clear he1
    go_wp2_with fail
    go_ret
    exact ⟨ret_bool HF.out.symm, HE.out.trans HE1.out⟩
  rw [hB] at HC
  have HF : Hid (hasDoorB H ds x y = ds.any (dEq (imin x y) (imax x y))) := by unfold Hid hasDoorB doorB; rw [hB]; rfl
  clear hB
  go_enter Tryd.func51, Tryd.ntmps51
  go_wp2_with fail
  rw [← Hwb.out]
  refine HC.out.mono ?_
  rintro e w1 ⟨rfl, he1⟩
  have r1 := (he1.cellAt w.heap.size hbl 1).trans Hk1.out
  have HC2 := Lib.hid (shelf_ContainsD A n c ds (imin x y) (imax x y) w1 (hxb.out.keep he1))
  have HE1 := Lib.hid he1
  clear he1
  go_wp2_with (go_at_call 64; refine HC2.out.mono ?_; rintro e w2 ⟨rfl, he2⟩; have HE2 := Lib.hid he2; clear he2)
  go_ret
  exact ⟨ret_bool HF.out.symm, HE.out.trans (HE1.out.trans HE2.out)⟩
def goB (H : Int) (ds : List GDoor) (ps : List Int) (m : GMove) : Bool := inB m.o 0 ((ps.length : Int) - 1) && (hallB H m.t && hasDoorB H ds (ps.getD m.o.toNat 0) m.t)
theorem boxHM (w : World) (a0 a1 b0 b1 b2 b3 : Value) (t1 t2 : TypeId) (wb : World) (hwb : wb = (w.alloc (.cells #[a0, a1] t1)).alloc (.cells #[b0, b1, b2, b3] t2)) :
    Ext w wb ∧ wb.heap.size = w.heap.size + 1 + 1 ∧ wb.cell? ⟨w.heap.size, 0, none⟩ = some a0 ∧ wb.cell? ⟨w.heap.size, 1, none⟩ = some a1 ∧ wb.cell? ⟨w.heap.size + 1, 0, none⟩ = some b0 ∧ wb.cell? ⟨w.heap.size + 1, 1, none⟩ = some b1 ∧ wb.cell? ⟨w.heap.size + 1, 2, none⟩ = some b2 ∧ wb.cell? ⟨w.heap.size + 1, 3, none⟩ = some b3 := by
  subst hwb
  have h : w.heap.size + 1 = (w.alloc (.cells #[a0, a1] t1)).heap.size := by simp
  refine ⟨((Ext.refl w).alloc _).alloc _, by simp, ?_, ?_, ?_, ?_, ?_, ?_⟩
  · rw [World.cell?_alloc_lt _ _ _ (by simp), World.cell?_alloc_new]; rfl
  · rw [World.cell?_alloc_lt _ _ _ (by simp), World.cell?_alloc_new]; rfl
  all_goals rw [h, World.cell?_alloc_new]; rfl
set_option maxRecDepth 100000 in
set_option maxHeartbeats 2000000 in
theorem impl_canGo (H : Int) (A : Option Addr) (n c : Nat) (ds : List GDoor) (A1 : Option Addr) (n1 c1 : Nat) (ps : List Int) (m : GMove) (w : World) (hx : Rd w 2 A n (ds.flatMap GDoor.enc)) (hx1 : Rd w 1 A1 n1 (ps.flatMap ienc)) :
    Calls Tryd.prog 33 #[.agg #[.int .i64 H, .slice A n c], .slice A1 n1 c1, .agg #[.int .i64 m.o, .int .i64 m.t, .int .i64 m.f, .int .i64 m.s]] w fun e w' => e = .returned (.bool (goB H ds ps m)) ∧ Ext w w' := by
  obtain ⟨o, t, f, s⟩ := m
  dsimp only
  have hn1 := hx1.2.1
  have hl1 := Lib.hid (hx1.len ienc_len (by omega))
  obtain ⟨wb, hwb⟩ : ∃ wb, wb = (w.alloc (.cells #[.int .i64 H, .slice A n c] 26)).alloc (.cells #[.int .i64 o, .int .i64 t, .int .i64 f, .int .i64 s] 41) := ⟨_, rfl⟩
  obtain ⟨hE, hsb, k0, k1, k2, k3, -, -⟩ := boxHM w _ _ _ _ _ _ _ _ wb hwb
  have HE := Lib.hid hE
  have Hwb := Lib.hid hwb
  have hxb := Lib.hid (hx.keep hE)
  have hxb1 := Lib.hid (hx1.keep hE)
  have e0 := cell_regrown k0
  have e1 := cell_regrown k1
  have e2 := cell_regrown k2
  have e3 := cell_regrown k3
  clear hE hsb hwb k0 k1 k2 k3 hx hx1
  cases hin : inB o 0 ((n1 : Int) - 1)
  case false =>
    have cB : ∀ W, Calls Tryd.prog 34 #[.int .i64 o, .int .i64 0, .int .i64 ((n1 : Int) - 1)] W fun e W' => e = .returned (.bool false) ∧ W = W' := fun W => by have := impl_between o 0 ((n1 : Int) - 1) W; rwa [hin] at this
    have HF : Hid (goB H ds ps ⟨o, t, f, s⟩ = false) := by unfold Hid goB; simp only [hl1.out, hin, Bool.false_and]
    clear hin
    go_enter Tryd.func33, Tryd.ntmps33
    go_wp2_with fail
    rw [← Hwb.out]
    (refine wp_region_ext (by kernel_rfl) (by kernel_rfl) ?_; (repeat (go_big_quiet_step (first | (go_at_call 34; with_reducible exact Calls.rg0 (cB _))))); refine wpQuiet_nil ?_)
    intro w1 hb1
    go_wp2_with fail
    go_ret
    exact ⟨ret_bool HF.out.symm, HE.out.trans hb1⟩
  have hox : 0 ≤ o ∧ o ≤ (n1 : Int) - 1 := by simpa [inB] using hin
  obtain ⟨j, rfl⟩ := Int.eq_ofNat_of_zero_le hox.1
  have hj : j < n1 := by omega
  clear hox
  have cB : ∀ W, Calls Tryd.prog 34 #[.int .i64 j, .int .i64 0, .int .i64 ((n1 : Int) - 1)] W fun e W' => e = .returned (.bool true) ∧ W = W' := fun W => by have := impl_between j 0 ((n1 : Int) - 1) W; rwa [hin] at this
  cases hh : hallB H t
  case false =>
    have cI := fun W => impl_isHall H A n c t W
    rw [hh] at cI
    have HF : Hid (goB H ds ps ⟨j, t, f, s⟩ = false) := by unfold Hid goB; simp only [hl1.out, hin, hh, Bool.false_and, Bool.and_false]
    clear hin hh
    go_enter Tryd.func33, Tryd.ntmps33
    go_wp2_with fail
    rw [← Hwb.out]
    (refine wp_region_ext (by kernel_rfl) (by kernel_rfl) ?_; (repeat (go_big_quiet_step (first | (go_at_call 34; with_reducible exact Calls.rg0 (cB _)) | (go_at_call 49; with_reducible exact Calls.rg (cI _))))); refine wpQuiet_nil ?_)
    intro w1 hb1
    go_wp2_with fail
    go_ret
    exact ⟨ret_bool HF.out.symm, HE.out.trans hb1⟩
  have cI := fun W => impl_isHall H A n c t W
  rw [hh] at cI
  obtain ⟨b, off, x, rfl, hbs, hxk, q0⟩ := ienc_at hxb1.out hj
  have e4 := cell_regrown q0
  have HX := Lib.hid (getD_of' (d := (0 : Int)) hxk)
  have cD := fun d os => impl_HasDoor H A n c ds x t _ (hxb.out.keep (ext_rg wb d os))
  have HF : Hid (goB H ds ps ⟨j, t, f, s⟩ = hasDoorB H ds x t) := by unfold Hid goB; simp only [hl1.out, hin, hh, Int.toNat_natCast, HX.out, Bool.true_and]
  clear hin hh hxk q0
  cases hd : hasDoorB H ds x t
  all_goals (rw [hd] at cD HF; clear hd)
  all_goals go_enter Tryd.func33, Tryd.ntmps33
  all_goals go_wp2_with fail
  all_goals rw [← Hwb.out]
  all_goals (refine wp_region_ext (by kernel_rfl) (by kernel_rfl) ?_; (repeat (go_big_quiet_step (first | (go_at_call 34; with_reducible exact Calls.rg0 (cB _)) | (go_at_call 49; with_reducible exact Calls.rg (cI _)) | (go_at_call 51; with_reducible exact Calls.rg (cD _ _))))); refine wpQuiet_nil ?_)
  all_goals intro w1 hb1
  all_goals go_wp2_with fail
  all_goals go_ret
  all_goals exact ⟨ret_bool HF.out.symm, HE.out.trans hb1⟩
/-- Whether guard k stands where the object is, or goes. -/
def nearB (gs ps : List Int) (m : GMove) (k : Int) : Bool := (gs.getD k.toNat 0 == ps.getD m.o.toNat 0) || (gs.getD k.toNat 0 == m.t)
set_option maxRecDepth 100000 in
set_option maxHeartbeats 2000000 in
theorem impl_CanMove1 (bg bp bm : Nat) (A1 : Option Addr) (n1 c1 : Nat) (ps : List Int) (A2 : Option Addr) (n2 c2 : Nat) (gs : List Int) (m : GMove) (k : Int) (w : World)
    (hx1 : Rd w 1 A1 n1 (ps.flatMap ienc)) (hx2 : Rd w 1 A2 n2 (gs.flatMap ienc)) (kg : w.cell? ⟨bg, 0, none⟩ = some (.slice A2 n2 c2)) (kp : w.cell? ⟨bp, 0, none⟩ = some (.slice A1 n1 c1))
    (ko : w.cell? ⟨bm, 0, none⟩ = some (.int .i64 m.o)) (kt : w.cell? ⟨bm, 1, none⟩ = some (.int .i64 m.t)) (h0 : 0 ≤ k) (h1 : k < n2) (h2 : 0 ≤ m.o) (h3 : m.o < n1) :
    Calls Tryd.prog 35 #[.int .i64 k, .pointer (some ⟨bg, 0, none⟩), .pointer (some ⟨bp, 0, none⟩), .pointer (some ⟨bm, 0, none⟩)] w fun e w' => e = .returned (.bool (nearB gs ps m k)) ∧ Ext w w' := by
  obtain ⟨o, t, f, s⟩ := m
  dsimp only at ko kt h2 h3
  have hn1 := hx1.2.1
  have hn2 := hx2.2.1
  obtain ⟨j, rfl⟩ := Int.eq_ofNat_of_zero_le h0
  obtain ⟨i, rfl⟩ := Int.eq_ofNat_of_zero_le h2
  have hj : j < n2 := by omega
  have hi : i < n1 := by omega
  obtain ⟨b1, off1, x, rfl, hbs1, hxk, q1⟩ := ienc_at hx1 hi
  obtain ⟨b2, off2, y, rfl, hbs2, hyk, q2⟩ := ienc_at hx2 hj
  have HF : Hid (nearB gs ps ⟨i, t, f, s⟩ j = ((y == x) || (y == t))) := by unfold Hid nearB; simp only [Int.toNat_natCast, getD_of' hxk, getD_of' hyk]
  clear hxk hyk hx1 hx2 h0 h1 h2 h3
  cases e1 : (y == x)
  · cases e2 : (y == t)
    all_goals have HV : Hid (nearB gs ps ⟨i, t, f, s⟩ j = (y == t)) := by unfold Hid; rw [HF.out, e1, Bool.false_or]
    all_goals clear HF
    all_goals rw [e2] at HV
    all_goals go_enter Tryd.func35, Tryd.ntmps35
    all_goals go_wp2_with fail
    all_goals go_quiet (fail)
    all_goals go_wp2_with fail
    all_goals go_ret
    all_goals exact ⟨ret_bool HV.out.symm, (Ext.refl w).drewN _⟩
  · have HV : Hid (nearB gs ps ⟨i, t, f, s⟩ j = true) := by unfold Hid; rw [HF.out, e1, Bool.true_or]
    clear HF
    go_enter Tryd.func35, Tryd.ntmps35
    go_wp2_with fail
    go_quiet (fail)
    go_wp2_with fail
    go_ret
    exact ⟨ret_bool HV.out.symm, (Ext.refl w).drewN _⟩
end Go.Proofs.YtfhibjehnoibeaaDoor
/- The plain law of GuardWalk; no condition but what stands at each theorem. -/
namespace Go.Proofs.YtfhibjehnoibeaaDoor
set_option linter.unusedSimpArgs false
set_option linter.unusedVariables false
open Go.RowKit Go.Sort
theorem doorB_inG {H : Int} {ds : List GDoor} (hB : houseB H ds = true) {x k : Int} (h : doorB ds x k = true) : x ≠ k ∧ 0 ≤ x ∧ x < H ∧ 0 ≤ k ∧ k < H := by
  unfold doorB at h
  rw [List.any_eq_true] at h
  obtain ⟨d, hd, he⟩ := h
  have h1 := (houseB_spec hB).2.2.2.2.1 d hd
  simp only [isDoor, imin, imax, Bool.and_eq_true, beq_iff_eq] at he
  simp only [doorOk, Bool.and_eq_true, decide_eq_true_eq] at h1
  have h2 := he.1
  have h3 := he.2
  split at h2 <;> split at h3 <;> omega
def guardOf (m : GMuseum) (g : Int) : Int := m.gs.getD g.toNat 0
def guardB (m : GMuseum) (g h : Int) : Bool := museumB m && (inB g 0 ((m.gs.length : Int) - 1) && doorB m.ds (guardOf m g) h)
def guardM (m : GMuseum) (g h : Int) : GMuseum := if guardB m g h then { m with gs := m.gs.set g.toNat h } else m
theorem museumB_house {m : GMuseum} (h : museumB m = true) : houseB m.H m.ds = true := by
  unfold museumB at h
  simp only [Bool.and_eq_true] at h
  have := h.1
  unfold placesB hallsB at this
  simp only [Bool.and_eq_true] at this
  exact this.2.2
theorem guard_impl {m : GMuseum} {g h : Int} (hm : museumB m = true) (hg : inB g 0 ((m.gs.length : Int) - 1) = true) : guardB m g h = hasDoorB m.H m.ds (guardOf m g) h := by
  unfold guardB hasDoorB
  rw [hm, hg, museumB_house hm]
  rfl
theorem guard_spec {m : GMuseum} {g h : Int} (hm : museumB m = true) (hg : inB g 0 ((m.gs.length : Int) - 1) = true) : guardB m g h = (inB h 0 (m.H - 1) && (!decide (h = guardOf m g) && doorB m.ds h (guardOf m g))) := by
  have hB := museumB_house hm
  unfold guardB
  rw [hm, hg, doorB_comm m.ds h (guardOf m g)]
  cases hd : doorB m.ds (guardOf m g) h
  · simp
  · obtain ⟨h1, h2, h3, h4, h5⟩ := doorB_inG hB hd
    have : ¬ h = guardOf m g := fun e => h1 e.symm
    simp only [inB, Bool.true_and, this, decide_false, Bool.not_false, Bool.and_true]
    have a1 : decide (0 ≤ h) = true := decide_eq_true h4
    have a2 : decide (h ≤ m.H - 1) = true := decide_eq_true (by omega)
    rw [a1, a2]
    rfl
theorem guardM_lens (m : GMuseum) (g h : Int) : (guardM m g h).ds.length = m.ds.length ∧ (guardM m g h).fs.length = m.fs.length ∧ (guardM m g h).ps.length = m.ps.length ∧ (guardM m g h).gs.length = m.gs.length ∧ (guardM m g h).rs.length = m.rs.length := by
  unfold guardM
  split
  · exact ⟨rfl, rfl, rfl, by simp, rfl⟩
  · exact ⟨rfl, rfl, rfl, rfl, rfl⟩
end Go.Proofs.YtfhibjehnoibeaaDoor
/- Contracts of GuardWalk; no condition but what stands at each theorem. -/
namespace Go.Proofs.YtfhibjehnoibeaaDoor
set_option linter.unusedSimpArgs false
set_option linter.unusedVariables false
open Go.RowKit Go.Sort
theorem own_setG {w : World} {base n c g : Nat} {t : TypeId} {u : List Int} (h : w.ownsRow base t 1 (.slice (some ⟨g, 0, none⟩) n c) n (u.flatMap ienc)) (i : Nat) (x : Int) :
    (w.setCell ⟨g, i, none⟩ (.int .i64 x)).ownsRow base t 1 (.slice (some ⟨g, 0, none⟩) n c) n ((u.set i x).flatMap ienc) := by
  rcases own_block h with ⟨hA, _⟩ | ⟨g', cur, hA, hb, hblk, hnc, hcm, hcs, ht⟩
  · cases hA
  · injection hA with hA
    injection hA with hA
    subst hA
    refine ⟨?_, .inr ⟨g, c, _, rfl, hb, hblk.set i _, hnc, hcm, by simpa using hcs, ?_⟩⟩
    · have := h.1
      rw [ienc_map, List.length_map] at this ⊢
      simpa using this
    · rw [ienc_map] at ht ⊢
      rw [List.map_set, ← ht]
      simp [List.take_set]
/-- One guard of a museum in rows of the call's own is set. -/
theorem MOwn.gset {w : World} {base g : Nat} {v : MV} {m : GMuseum} (h : MOwn w base v m) (hA : v.sg.A = some ⟨g, 0, none⟩) (i : Nat) (x : Int) : MOwn (w.setCell ⟨g, i, none⟩ (.int .i64 x)) base v { m with gs := m.gs.set i x } := by
  have hg : w.grownBy (w.setCell ⟨g, i, none⟩ (.int .i64 x)) v.sg.v.ownBlock := by
    have : v.sg.v.ownBlock = some g := by rw [SL.v, hA]; rfl
    rw [this]
    exact grown_set (grown_refl _ _) i _
  obtain ⟨a1, a2, a3, a4, a5, a6, a7, a8, a9, a10⟩ := aparts h.ap
  refine ⟨h.eH, h.ed, own_apart h.od a3 hg, own_apart h.of_ a6 hg, own_apart h.op a8 hg, ?_, own_apart h.or_ a10.symm hg, h.ap⟩
  have ho := h.og
  unfold SL.v at ho ⊢
  rw [hA] at ho ⊢
  exact own_setG ho i x
end Go.Proofs.YtfhibjehnoibeaaDoor
/- Contract of the reference's GuardWalk; no condition but what stands at each theorem. -/
namespace Go.Proofs.YtfhibjehnoibeaaDoor
set_option linter.unusedSimpArgs false
set_option linter.unusedVariables false
open Go.RowKit Go.Sort
theorem house_HG {H : Int} {ds : List GDoor} (h : houseB H ds = true) : 1 ≤ H ∧ H ≤ 7 := by
  have := houseB_spec h
  omega
set_option maxRecDepth 100000 in
set_option maxHeartbeats 4000000 in
theorem spec_GuardWalk (v : MV) (m : GMuseum) (g h : Int) (w : World) (hx : MRd w v m) (hf : MFit v) : Calls Tryd.prog 57 #[v.val, .int .i64 g, .int .i64 h] w (MPost (guardM m g h) (.bool (guardB m g h)) w) := by
  obtain ⟨wb, hwb⟩ : ∃ wb, wb = w.alloc (.cells v.cells 30) := ⟨_, rfl⟩
  have hbx := MBox.new hwb
  have hE : Ext w wb := by rw [hwb]; exact (Ext.refl w).alloc _
  obtain ⟨wz, hwz⟩ : ∃ wz, wz = wb.alloc (.cells #[.int .i64 0, .slice none 0 0, .slice none 0 0, .slice none 0 0, .slice none 0 0, .int .i64 0, .slice none 0 0] 30) := ⟨_, rfl⟩
  have hEz : Ext wb wz := by rw [hwz]; exact (Ext.refl wb).alloc _
  have hsb : wb.heap.size = w.heap.size + 1 := by rw [hwb]; simp
  have hsz : wz.heap.size = w.heap.size + 1 + 1 := by rw [hwz]; simp [hsb]
  have HBz : Hid (Blk wz (w.heap.size + 1) 30 #[.int .i64 0, .slice none 0 0, .slice none 0 0, .slice none 0 0, .slice none 0 0, .int .i64 0, .slice none 0 0]) := Lib.hid (by rw [hwz, ← hsb]; exact Blk.new _ _ _)
  have HX := Lib.hid (hx.keep (hE.trans hEz))
  have HB := Lib.hid (hbx.keep hEz)
  have HE := Lib.hid (hE.trans hEz)
  have cC := Lib.hid (spec_l38Copy v m wz HX.out hf)
  have cM := Lib.hid (fun W (he : Ext wz W) => spec_MuseumOk v m W (HX.out.keep he))
  obtain ⟨Hh, ⟨A0, n0, c0⟩, ⟨A1, n1, c1⟩, ⟨A2, n2, c2⟩, ⟨A3, n3, c3⟩, day, ⟨A4, n4, c4⟩⟩ := v
  have HLg : Hid (m.gs.length = n3) := HX.out.rg.len ienc_len (by omega)
  have hH : Hh = m.H := hx.eH
  subst hH
  have Hwz : Hid (wz = (w.alloc (.cells #[.int .i64 m.H, .slice A0 n0 c0, .slice A1 n1 c1, .slice A2 n2 c2, .slice A3 n3 c3, .int .i64 day, .slice A4 n4 c4] 30)).alloc (.cells #[.int .i64 0, .slice none 0 0, .slice none 0 0, .slice none 0 0, .slice none 0 0, .int .i64 0, .slice none 0 0] 30)) := Lib.hid (by rw [hwz, hwb]; rfl)
  have hday : day = m.d := hx.ed
  subst hday
  have hzl : w.heap.size + 1 < wz.heap.size := by omega
  clear hwb hwz hbx hE hEz hx hf hsb hsz
  show Calls Tryd.prog 57 #[.agg #[.int .i64 m.H, .slice A0 n0 c0, .slice A1 n1 c1, .slice A2 n2 c2, .slice A3 n3 c3, .int .i64 m.d, .slice A4 n4 c4], .int .i64 g, .int .i64 h] w _
  obtain ⟨b0, b1, b2, b3, b4, b5, b6⟩ := HB.out.cell
  simp only at b0 b1 b2 b3 b4 b5 b6
  have Hb0 := Lib.hid b0
  rw [Hwz.out] at b0 b1 b2 b3 b4 b5 b6
  go_enter Tryd.func57, Tryd.ntmps57
  go_wp2_with (go_at_call 70; refine (fun h : Hid _ => h.out) ?_)
  unfold Hid
  rw [← Hwz.out]
  refine cC.out.mono ?_
  rintro e w1 ⟨v1, hev, he1, ho1⟩
  obtain ⟨Hh1, ⟨A01, n01, c01⟩, ⟨A11, n11, c11⟩, ⟨A21, n21, c21⟩, ⟨A31, n31, c31⟩, day1, ⟨A41, n41, c41⟩⟩ := v1
  simp only [MV.val, MV.cells] at hev
  subst hev
  have hd1 : day1 = m.d := ho1.ed
  subst hd1
  obtain ⟨w2, hw2⟩ : ∃ w2, w2 = w1.alloc (.cells #[.int .i64 Hh1, .slice A01 n01 c01, .slice A11 n11 c11, .slice A21 n21 c21, .slice A31 n31 c31, .int .i64 m.d, .slice A41 n41 c41] 30) := ⟨_, rfl⟩
  have hB6 : Blk w2 w1.heap.size 30 #[.int .i64 Hh1, .slice A01 n01 c01, .slice A11 n11 c11, .slice A21 n21 c21, .slice A31 n31 c31, .int .i64 m.d, .slice A41 n41 c41] := by rw [hw2]; exact Blk.new _ _ _
  have he2 : Ext w1 w2 := by rw [hw2]; exact (Ext.refl _).alloc _
  have HB6 := Lib.hid hB6
  have HAT1 := MAt.of_own ho1
  have HO2 := Lib.hid (ho1.keep he2)
  have HE2 := Lib.hid (he1.trans he2)
  have HW2 := Lib.hid hw2
  have hz2 : wz.heap.size ≤ w1.heap.size := he1.size
  have hs2 : w2.heap.size = w1.heap.size + 1 := by rw [hw2]; simp
  have CM : Hid (∀ W, Ext wz W → Calls Tryd.prog 71 #[.agg #[.int .i64 m.H, .slice A0 n0 c0, .slice A1 n1 c1, .slice A2 n2 c2, .slice A3 n3 c3, .int .i64 m.d, .slice A4 n4 c4]] W fun e w' => e = .returned (.bool (museumB m)) ∧ Ext W w') := cM
  have CD : Hid (∀ W x y, Ext wz W → Calls Tryd.prog 62 #[.agg #[.int .i64 m.H, .slice A0 n0 c0], .int .i64 x, .int .i64 y] W fun e w' => e = .returned (.bool (doorB m.ds x y)) ∧ Ext W w') := Lib.hid fun W x y he => spec_l23Door m.H A0 n0 c0 m.ds x y W (HX.out.rd.keep he)
  clear hB6 he2 ho1 he1 hw2 b0 b1 b2 b3 b4 b5 b6 cC cM
  go_wp2_with fail
  rw [← HW2.out]
  obtain ⟨b0, b1, b2, b3, b4, b5, b6⟩ := (HB.out.keep HE2.out).cell
  simp only at b0 b1 b2 b3 b4 b5 b6
  have e0 := cell_regrown b0
  have e1 := cell_regrown b1
  have e2 := cell_regrown b2
  have e3 := cell_regrown b3
  have e4 := cell_regrown b4
  have e5 := cell_regrown b5
  have e6 := cell_regrown b6
  have HAT := Lib.hid HAT1
  have cM := CM.out
  cases hm : museumB m
  case false =>
    rw [hm] at cM
    have HF : Hid (guardB m g h = false) := Lib.hid (by simp [guardB, hm])
    have HM : Hid (guardM m g h = m) := Lib.hid (by rw [guardM, HF.out]; rfl)
    clear hm
    (refine wp_region_ext (by kernel_rfl) (by kernel_rfl) ?_; (repeat (go_big_quiet_step (first | (go_at_call 71; with_reducible exact Calls.rg (cM _ (HE2.out.trans (ext_rg _ _ _))))))); refine wpQuiet_nil ?_)
    intro w3 hb3
    have HE3 := Lib.hid (HE2.out.trans hb3)
    have HO3 := Lib.hid (HO2.out.keep hb3)
    have HB63 := Lib.hid (HB6.out.keep hb3)
    have hz3 : w2.heap.size ≤ w3.heap.size := hb3.size
    clear hb3 b0 b1 b2 b3 b4 b5 b6 e0 e1 e2 e3 e4 e5 e6
    have Bz := Blk.keep HBz.out HE3.out
    have x0 := Bz.cellAt (i := 0) (by simp)
    have x1 := Bz.cellAt (i := 1) (by simp)
    have x2 := Bz.cellAt (i := 2) (by simp)
    have x3 := Bz.cellAt (i := 3) (by simp)
    have x4 := Bz.cellAt (i := 4) (by simp)
    have x5 := Bz.cellAt (i := 5) (by simp)
    have x6 := Bz.cellAt (i := 6) (by simp)
    have fz := Bz.free
    simp at x0 x1 x2 x3 x4 x5 x6
    have y0 := HB63.out.cellAt (i := 0) (by simp)
    have y1 := HB63.out.cellAt (i := 1) (by simp)
    have y2 := HB63.out.cellAt (i := 2) (by simp)
    have y3 := HB63.out.cellAt (i := 3) (by simp)
    have y4 := HB63.out.cellAt (i := 4) (by simp)
    have y5 := HB63.out.cellAt (i := 5) (by simp)
    have y6 := HB63.out.cellAt (i := 6) (by simp)
    simp at y0 y1 y2 y3 y4 y5 y6
    have lz : w.heap.size + 1 < w3.heap.size := Bz.lt
    go_wp2_with fail
    obtain ⟨b6', k6⟩ := store7 Bz (.int .i64 Hh1) (.slice A01 n01 c01) (.slice A11 n11 c11) (.slice A21 n21 c21) (.slice A31 n31 c31) (.int .i64 m.d) (.slice A41 n41 c41)
    have hO6 := HO3.out.out k6 (by omega)
    have hE6 := k6.ext (HE.out.trans HE3.out) (by omega)
    generalize (((((((w3.setCell ⟨w.heap.size + 1, 0, none⟩ (.int .i64 Hh1)).setCell ⟨w.heap.size + 1, 1, none⟩ (.slice A01 n01 c01)).setCell ⟨w.heap.size + 1, 2, none⟩ (.slice A11 n11 c11)).setCell ⟨w.heap.size + 1, 3, none⟩ (.slice A21 n21 c21)).setCell ⟨w.heap.size + 1, 4, none⟩ (.slice A31 n31 c31)).setCell ⟨w.heap.size + 1, 5, none⟩ (.int .i64 m.d)).setCell ⟨w.heap.size + 1, 6, none⟩ (.slice A41 n41 c41)) = w9 at b6' k6 hO6 hE6 ⊢
    have t0 := b6'.cellAt (i := 0) (by simp)
    have t1 := b6'.cellAt (i := 1) (by simp)
    have t2 := b6'.cellAt (i := 2) (by simp)
    have t3 := b6'.cellAt (i := 3) (by simp)
    have t4 := b6'.cellAt (i := 4) (by simp)
    have t5 := b6'.cellAt (i := 5) (by simp)
    have t6 := b6'.cellAt (i := 6) (by simp)
    simp at t0 t1 t2 t3 t4 t5 t6
    refine bodyPost_ret (v := .tuple #[MV.val ⟨Hh1, ⟨A01, n01, c01⟩, ⟨A11, n11, c11⟩, ⟨A21, n21, c21⟩, ⟨A31, n31, c31⟩, m.d, ⟨A41, n41, c41⟩⟩, .bool false]) (by simp [results, Tryd.results57, go_sem, t0, t1, t2, t3, t4, t5, t6, MV.val, MV.cells]) rfl ?_
    exact ⟨_, (by rw [HF.out]), hE6, by rw [HM.out]; exact hO6.weak (by omega)⟩
  rw [hm] at cM
  have cB := fun W => spec_l01In g 0 ((m.gs.length : Int) - 1) W
  rw [HLg.out] at cB
  have hww : wrap64 ((n3 : Int) - 1) = (n3 : Int) - 1 := by have : n3 ≤ 9223372036854775807 := HX.out.rg.2.1; unfold wrap64; omega
  cases hi : inB g 0 ((n3 : Int) - 1)
  case false =>
    rw [hi] at cB
    have HF : Hid (guardB m g h = false) := Lib.hid (by rw [guardB, HLg.out, hi]; simp)
    have HM : Hid (guardM m g h = m) := Lib.hid (by rw [guardM, HF.out]; rfl)
    clear hm hi
    (refine wp_region_ext (by kernel_rfl) (by kernel_rfl) ?_; (repeat (go_big_quiet_step (first | (go_at_call 71; with_reducible exact Calls.rg (cM _ (HE2.out.trans (ext_rg _ _ _)))) | (go_at_call 72; with_reducible exact Calls.rg0 (cB _))))); refine wpQuiet_nil ?_)
    intro w3 hb3
    have HE3 := Lib.hid (HE2.out.trans hb3)
    have HO3 := Lib.hid (HO2.out.keep hb3)
    have HB63 := Lib.hid (HB6.out.keep hb3)
    have hz3 : w2.heap.size ≤ w3.heap.size := hb3.size
    clear hb3 b0 b1 b2 b3 b4 b5 b6 e0 e1 e2 e3 e4 e5 e6
    have Bz := Blk.keep HBz.out HE3.out
    have x0 := Bz.cellAt (i := 0) (by simp)
    have x1 := Bz.cellAt (i := 1) (by simp)
    have x2 := Bz.cellAt (i := 2) (by simp)
    have x3 := Bz.cellAt (i := 3) (by simp)
    have x4 := Bz.cellAt (i := 4) (by simp)
    have x5 := Bz.cellAt (i := 5) (by simp)
    have x6 := Bz.cellAt (i := 6) (by simp)
    have fz := Bz.free
    simp at x0 x1 x2 x3 x4 x5 x6
    have y0 := HB63.out.cellAt (i := 0) (by simp)
    have y1 := HB63.out.cellAt (i := 1) (by simp)
    have y2 := HB63.out.cellAt (i := 2) (by simp)
    have y3 := HB63.out.cellAt (i := 3) (by simp)
    have y4 := HB63.out.cellAt (i := 4) (by simp)
    have y5 := HB63.out.cellAt (i := 5) (by simp)
    have y6 := HB63.out.cellAt (i := 6) (by simp)
    simp at y0 y1 y2 y3 y4 y5 y6
    have lz : w.heap.size + 1 < w3.heap.size := Bz.lt
    go_wp2_with fail
    obtain ⟨b6', k6⟩ := store7 Bz (.int .i64 Hh1) (.slice A01 n01 c01) (.slice A11 n11 c11) (.slice A21 n21 c21) (.slice A31 n31 c31) (.int .i64 m.d) (.slice A41 n41 c41)
    have hO6 := HO3.out.out k6 (by omega)
    have hE6 := k6.ext (HE.out.trans HE3.out) (by omega)
    generalize (((((((w3.setCell ⟨w.heap.size + 1, 0, none⟩ (.int .i64 Hh1)).setCell ⟨w.heap.size + 1, 1, none⟩ (.slice A01 n01 c01)).setCell ⟨w.heap.size + 1, 2, none⟩ (.slice A11 n11 c11)).setCell ⟨w.heap.size + 1, 3, none⟩ (.slice A21 n21 c21)).setCell ⟨w.heap.size + 1, 4, none⟩ (.slice A31 n31 c31)).setCell ⟨w.heap.size + 1, 5, none⟩ (.int .i64 m.d)).setCell ⟨w.heap.size + 1, 6, none⟩ (.slice A41 n41 c41)) = w9 at b6' k6 hO6 hE6 ⊢
    have t0 := b6'.cellAt (i := 0) (by simp)
    have t1 := b6'.cellAt (i := 1) (by simp)
    have t2 := b6'.cellAt (i := 2) (by simp)
    have t3 := b6'.cellAt (i := 3) (by simp)
    have t4 := b6'.cellAt (i := 4) (by simp)
    have t5 := b6'.cellAt (i := 5) (by simp)
    have t6 := b6'.cellAt (i := 6) (by simp)
    simp at t0 t1 t2 t3 t4 t5 t6
    refine bodyPost_ret (v := .tuple #[MV.val ⟨Hh1, ⟨A01, n01, c01⟩, ⟨A11, n11, c11⟩, ⟨A21, n21, c21⟩, ⟨A31, n31, c31⟩, m.d, ⟨A41, n41, c41⟩⟩, .bool false]) (by simp [results, Tryd.results57, go_sem, t0, t1, t2, t3, t4, t5, t6, MV.val, MV.cells]) rfl ?_
    exact ⟨_, (by rw [HF.out]), hE6, by rw [HM.out]; exact hO6.weak (by omega)⟩
  rw [hi] at cB
  have hgs := guard_spec (h := h) hm (by rw [HLg.out]; exact hi)
  have hH := house_HG (museumB_house hm)
  have hir : 0 ≤ g ∧ g ≤ (n3 : Int) - 1 := by simpa [inB] using hi
  obtain ⟨j, rfl⟩ := Int.eq_ofNat_of_zero_le hir.1
  have hj : j < n3 := by omega
  obtain ⟨bg, og, x, rfl, hbg, hxk, p0⟩ := ienc_at (HX.out.rg.keep HE2.out) hj
  have r0 := cell_regrown p0
  have hgo : guardOf m j = x := by unfold guardOf; simp only [Int.toNat_natCast]; exact by simp [hxk]
  rw [hgo] at hgs
  have hwH : wrap64 (m.H - 1) = m.H - 1 := by unfold wrap64; omega
  have cH := fun W => spec_l01In h 0 (m.H - 1) W
  cases hh : inB h 0 (m.H - 1)
  case false =>
    rw [hh] at cH
    have HF : Hid (guardB m j h = false) := Lib.hid (hgs.trans (by rw [hh]; rfl))
    have HM : Hid (guardM m j h = m) := Lib.hid (by rw [guardM, HF.out]; rfl)
    clear hm hi hh hgs hgo hxk hH
    (refine wp_region_ext (by kernel_rfl) (by kernel_rfl) ?_; (repeat (go_big_quiet_step (first | (go_at_call 71; with_reducible exact Calls.rg (cM _ (HE2.out.trans (ext_rg _ _ _)))) | (go_at_call 72; with_reducible exact Calls.rg0 (cB _)) | (go_at_call 72; with_reducible exact Calls.rg0 (cH _))))); refine wpQuiet_nil ?_)
    intro w3 hb3
    have HE3 := Lib.hid (HE2.out.trans hb3)
    have HO3 := Lib.hid (HO2.out.keep hb3)
    have HB63 := Lib.hid (HB6.out.keep hb3)
    have hz3 : w2.heap.size ≤ w3.heap.size := hb3.size
    clear hb3 b0 b1 b2 b3 b4 b5 b6 e0 e1 e2 e3 e4 e5 e6
    clear p0 r0
    have Bz := Blk.keep HBz.out HE3.out
    have x0 := Bz.cellAt (i := 0) (by simp)
    have x1 := Bz.cellAt (i := 1) (by simp)
    have x2 := Bz.cellAt (i := 2) (by simp)
    have x3 := Bz.cellAt (i := 3) (by simp)
    have x4 := Bz.cellAt (i := 4) (by simp)
    have x5 := Bz.cellAt (i := 5) (by simp)
    have x6 := Bz.cellAt (i := 6) (by simp)
    have fz := Bz.free
    simp at x0 x1 x2 x3 x4 x5 x6
    have y0 := HB63.out.cellAt (i := 0) (by simp)
    have y1 := HB63.out.cellAt (i := 1) (by simp)
    have y2 := HB63.out.cellAt (i := 2) (by simp)
    have y3 := HB63.out.cellAt (i := 3) (by simp)
    have y4 := HB63.out.cellAt (i := 4) (by simp)
    have y5 := HB63.out.cellAt (i := 5) (by simp)
    have y6 := HB63.out.cellAt (i := 6) (by simp)
    simp at y0 y1 y2 y3 y4 y5 y6
    have lz : w.heap.size + 1 < w3.heap.size := Bz.lt
    go_wp2_with fail
    obtain ⟨b6', k6⟩ := store7 Bz (.int .i64 Hh1) (.slice A01 n01 c01) (.slice A11 n11 c11) (.slice A21 n21 c21) (.slice A31 n31 c31) (.int .i64 m.d) (.slice A41 n41 c41)
    have hO6 := HO3.out.out k6 (by omega)
    have hE6 := k6.ext (HE.out.trans HE3.out) (by omega)
    generalize (((((((w3.setCell ⟨w.heap.size + 1, 0, none⟩ (.int .i64 Hh1)).setCell ⟨w.heap.size + 1, 1, none⟩ (.slice A01 n01 c01)).setCell ⟨w.heap.size + 1, 2, none⟩ (.slice A11 n11 c11)).setCell ⟨w.heap.size + 1, 3, none⟩ (.slice A21 n21 c21)).setCell ⟨w.heap.size + 1, 4, none⟩ (.slice A31 n31 c31)).setCell ⟨w.heap.size + 1, 5, none⟩ (.int .i64 m.d)).setCell ⟨w.heap.size + 1, 6, none⟩ (.slice A41 n41 c41)) = w9 at b6' k6 hO6 hE6 ⊢
    have t0 := b6'.cellAt (i := 0) (by simp)
    have t1 := b6'.cellAt (i := 1) (by simp)
    have t2 := b6'.cellAt (i := 2) (by simp)
    have t3 := b6'.cellAt (i := 3) (by simp)
    have t4 := b6'.cellAt (i := 4) (by simp)
    have t5 := b6'.cellAt (i := 5) (by simp)
    have t6 := b6'.cellAt (i := 6) (by simp)
    simp at t0 t1 t2 t3 t4 t5 t6
    refine bodyPost_ret (v := .tuple #[MV.val ⟨Hh1, ⟨A01, n01, c01⟩, ⟨A11, n11, c11⟩, ⟨A21, n21, c21⟩, ⟨A31, n31, c31⟩, m.d, ⟨A41, n41, c41⟩⟩, .bool false]) (by simp [results, Tryd.results57, go_sem, t0, t1, t2, t3, t4, t5, t6, MV.val, MV.cells]) rfl ?_
    exact ⟨_, (by rw [HF.out]), hE6, by rw [HM.out]; exact hO6.weak (by omega)⟩
  rw [hh] at cH
  by_cases he : h = x
  case pos =>
    have hee : (h == x) = true := by simpa using he
    have HF : Hid (guardB m j h = false) := Lib.hid (hgs.trans (by simp [he]))
    have HM : Hid (guardM m j h = m) := Lib.hid (by rw [guardM, HF.out]; rfl)
    clear hm hi hh hgs hgo hxk hH he
    (refine wp_region_ext (by kernel_rfl) (by kernel_rfl) ?_; (repeat (go_big_quiet_step (first | (go_at_call 71; with_reducible exact Calls.rg (cM _ (HE2.out.trans (ext_rg _ _ _)))) | (go_at_call 72; with_reducible exact Calls.rg0 (cB _)) | (go_at_call 72; with_reducible exact Calls.rg0 (cH _))))); refine wpQuiet_nil ?_)
    intro w3 hb3
    have HE3 := Lib.hid (HE2.out.trans hb3)
    have HO3 := Lib.hid (HO2.out.keep hb3)
    have HB63 := Lib.hid (HB6.out.keep hb3)
    have hz3 : w2.heap.size ≤ w3.heap.size := hb3.size
    clear hb3 b0 b1 b2 b3 b4 b5 b6 e0 e1 e2 e3 e4 e5 e6
    clear p0 r0
    have Bz := Blk.keep HBz.out HE3.out
    have x0 := Bz.cellAt (i := 0) (by simp)
    have x1 := Bz.cellAt (i := 1) (by simp)
    have x2 := Bz.cellAt (i := 2) (by simp)
    have x3 := Bz.cellAt (i := 3) (by simp)
    have x4 := Bz.cellAt (i := 4) (by simp)
    have x5 := Bz.cellAt (i := 5) (by simp)
    have x6 := Bz.cellAt (i := 6) (by simp)
    have fz := Bz.free
    simp at x0 x1 x2 x3 x4 x5 x6
    have y0 := HB63.out.cellAt (i := 0) (by simp)
    have y1 := HB63.out.cellAt (i := 1) (by simp)
    have y2 := HB63.out.cellAt (i := 2) (by simp)
    have y3 := HB63.out.cellAt (i := 3) (by simp)
    have y4 := HB63.out.cellAt (i := 4) (by simp)
    have y5 := HB63.out.cellAt (i := 5) (by simp)
    have y6 := HB63.out.cellAt (i := 6) (by simp)
    simp at y0 y1 y2 y3 y4 y5 y6
    have lz : w.heap.size + 1 < w3.heap.size := Bz.lt
    go_wp2_with fail
    obtain ⟨b6', k6⟩ := store7 Bz (.int .i64 Hh1) (.slice A01 n01 c01) (.slice A11 n11 c11) (.slice A21 n21 c21) (.slice A31 n31 c31) (.int .i64 m.d) (.slice A41 n41 c41)
    have hO6 := HO3.out.out k6 (by omega)
    have hE6 := k6.ext (HE.out.trans HE3.out) (by omega)
    generalize (((((((w3.setCell ⟨w.heap.size + 1, 0, none⟩ (.int .i64 Hh1)).setCell ⟨w.heap.size + 1, 1, none⟩ (.slice A01 n01 c01)).setCell ⟨w.heap.size + 1, 2, none⟩ (.slice A11 n11 c11)).setCell ⟨w.heap.size + 1, 3, none⟩ (.slice A21 n21 c21)).setCell ⟨w.heap.size + 1, 4, none⟩ (.slice A31 n31 c31)).setCell ⟨w.heap.size + 1, 5, none⟩ (.int .i64 m.d)).setCell ⟨w.heap.size + 1, 6, none⟩ (.slice A41 n41 c41)) = w9 at b6' k6 hO6 hE6 ⊢
    have t0 := b6'.cellAt (i := 0) (by simp)
    have t1 := b6'.cellAt (i := 1) (by simp)
    have t2 := b6'.cellAt (i := 2) (by simp)
    have t3 := b6'.cellAt (i := 3) (by simp)
    have t4 := b6'.cellAt (i := 4) (by simp)
    have t5 := b6'.cellAt (i := 5) (by simp)
    have t6 := b6'.cellAt (i := 6) (by simp)
    simp at t0 t1 t2 t3 t4 t5 t6
    refine bodyPost_ret (v := .tuple #[MV.val ⟨Hh1, ⟨A01, n01, c01⟩, ⟨A11, n11, c11⟩, ⟨A21, n21, c21⟩, ⟨A31, n31, c31⟩, m.d, ⟨A41, n41, c41⟩⟩, .bool false]) (by simp [results, Tryd.results57, go_sem, t0, t1, t2, t3, t4, t5, t6, MV.val, MV.cells]) rfl ?_
    exact ⟨_, (by rw [HF.out]), hE6, by rw [HM.out]; exact hO6.weak (by omega)⟩
  have hee : (h == x) = false := by simpa using he
  have cD := fun W => CD.out W h x
  cases hd : doorB m.ds h x
  case false =>
    rw [hd] at cD
    have HF : Hid (guardB m j h = false) := Lib.hid (hgs.trans (by rw [hd]; simp))
    have HM : Hid (guardM m j h = m) := Lib.hid (by rw [guardM, HF.out]; rfl)
    clear hm hi hh hd hgs hgo hxk hH he
    (refine wp_region_ext (by kernel_rfl) (by kernel_rfl) ?_; (repeat (go_big_quiet_step (first | (go_at_call 71; with_reducible exact Calls.rg (cM _ (HE2.out.trans (ext_rg _ _ _)))) | (go_at_call 72; with_reducible exact Calls.rg0 (cB _)) | (go_at_call 72; with_reducible exact Calls.rg0 (cH _)) | (go_at_call 62; with_reducible exact Calls.rg (cD _ (HE2.out.trans (ext_rg _ _ _))))))); refine wpQuiet_nil ?_)
    intro w3 hb3
    have HE3 := Lib.hid (HE2.out.trans hb3)
    have HO3 := Lib.hid (HO2.out.keep hb3)
    have HB63 := Lib.hid (HB6.out.keep hb3)
    have hz3 : w2.heap.size ≤ w3.heap.size := hb3.size
    clear hb3 b0 b1 b2 b3 b4 b5 b6 e0 e1 e2 e3 e4 e5 e6
    clear p0 r0
    have Bz := Blk.keep HBz.out HE3.out
    have x0 := Bz.cellAt (i := 0) (by simp)
    have x1 := Bz.cellAt (i := 1) (by simp)
    have x2 := Bz.cellAt (i := 2) (by simp)
    have x3 := Bz.cellAt (i := 3) (by simp)
    have x4 := Bz.cellAt (i := 4) (by simp)
    have x5 := Bz.cellAt (i := 5) (by simp)
    have x6 := Bz.cellAt (i := 6) (by simp)
    have fz := Bz.free
    simp at x0 x1 x2 x3 x4 x5 x6
    have y0 := HB63.out.cellAt (i := 0) (by simp)
    have y1 := HB63.out.cellAt (i := 1) (by simp)
    have y2 := HB63.out.cellAt (i := 2) (by simp)
    have y3 := HB63.out.cellAt (i := 3) (by simp)
    have y4 := HB63.out.cellAt (i := 4) (by simp)
    have y5 := HB63.out.cellAt (i := 5) (by simp)
    have y6 := HB63.out.cellAt (i := 6) (by simp)
    simp at y0 y1 y2 y3 y4 y5 y6
    have lz : w.heap.size + 1 < w3.heap.size := Bz.lt
    go_wp2_with fail
    obtain ⟨b6', k6⟩ := store7 Bz (.int .i64 Hh1) (.slice A01 n01 c01) (.slice A11 n11 c11) (.slice A21 n21 c21) (.slice A31 n31 c31) (.int .i64 m.d) (.slice A41 n41 c41)
    have hO6 := HO3.out.out k6 (by omega)
    have hE6 := k6.ext (HE.out.trans HE3.out) (by omega)
    generalize (((((((w3.setCell ⟨w.heap.size + 1, 0, none⟩ (.int .i64 Hh1)).setCell ⟨w.heap.size + 1, 1, none⟩ (.slice A01 n01 c01)).setCell ⟨w.heap.size + 1, 2, none⟩ (.slice A11 n11 c11)).setCell ⟨w.heap.size + 1, 3, none⟩ (.slice A21 n21 c21)).setCell ⟨w.heap.size + 1, 4, none⟩ (.slice A31 n31 c31)).setCell ⟨w.heap.size + 1, 5, none⟩ (.int .i64 m.d)).setCell ⟨w.heap.size + 1, 6, none⟩ (.slice A41 n41 c41)) = w9 at b6' k6 hO6 hE6 ⊢
    have t0 := b6'.cellAt (i := 0) (by simp)
    have t1 := b6'.cellAt (i := 1) (by simp)
    have t2 := b6'.cellAt (i := 2) (by simp)
    have t3 := b6'.cellAt (i := 3) (by simp)
    have t4 := b6'.cellAt (i := 4) (by simp)
    have t5 := b6'.cellAt (i := 5) (by simp)
    have t6 := b6'.cellAt (i := 6) (by simp)
    simp at t0 t1 t2 t3 t4 t5 t6
    refine bodyPost_ret (v := .tuple #[MV.val ⟨Hh1, ⟨A01, n01, c01⟩, ⟨A11, n11, c11⟩, ⟨A21, n21, c21⟩, ⟨A31, n31, c31⟩, m.d, ⟨A41, n41, c41⟩⟩, .bool false]) (by simp [results, Tryd.results57, go_sem, t0, t1, t2, t3, t4, t5, t6, MV.val, MV.cells]) rfl ?_
    exact ⟨_, (by rw [HF.out]), hE6, by rw [HM.out]; exact hO6.weak (by omega)⟩
  case true =>
    rw [hd] at cD
    have HF : Hid (guardB m j h = true) := Lib.hid (hgs.trans (by rw [hh, hd]; simp [he]))
    have HM : Hid (guardM m j h = { m with gs := m.gs.set j h }) := Lib.hid (by rw [guardM, HF.out]; rfl)
    clear hm hi hh hd hgs hgo hxk hH he
    (refine wp_region_ext (by kernel_rfl) (by kernel_rfl) ?_; (repeat (go_big_quiet_step (first | (go_at_call 71; with_reducible exact Calls.rg (cM _ (HE2.out.trans (ext_rg _ _ _)))) | (go_at_call 72; with_reducible exact Calls.rg0 (cB _)) | (go_at_call 72; with_reducible exact Calls.rg0 (cH _)) | (go_at_call 62; with_reducible exact Calls.rg (cD _ (HE2.out.trans (ext_rg _ _ _))))))); refine wpQuiet_nil ?_)
    intro w3 hb3
    have HE3 := Lib.hid (HE2.out.trans hb3)
    have HO3 := Lib.hid (HO2.out.keep hb3)
    have HB63 := Lib.hid (HB6.out.keep hb3)
    have hz3 : w2.heap.size ≤ w3.heap.size := hb3.size
    clear hb3 b0 b1 b2 b3 b4 b5 b6 e0 e1 e2 e3 e4 e5 e6
    clear p0 r0
    have hl31 := HO3.out.rd.rg.len ienc_len (by omega)
    simp only at hl31
    have hj31 : j < n31 := by (have := HLg.out; omega)
    obtain ⟨gb, hA, hbg, hblk⟩ := PBlk.of_own HO3.out.og (by show 1 ≤ n31; omega)
    simp only at hA
    subst hA
    have hat := HAT.out.2.2.2.1 gb (by rfl)
    have q0 := hblk.cell (i := j) (by omega)
    have q1 := hblk.free j
    have q2 := hblk.lt
    have y4 := HB63.out.cellAt (i := 4) (by simp)
    simp at y4
    clear hl31 hblk
    go_upto_region 5 with fail
    have hk := KeptOut.of_grown (lo := wz.heap.size) (hi := w1.heap.size) (grown_set (grown_refl w3 (some gb)) j (.int .i64 h)) (fun k hk => by injection hk with hk; omega)
    have hb7 : Blk (w3.setCell ⟨gb, j, none⟩ (.int .i64 h)) w1.heap.size _ _ := (hk.2 _ HB63.out.lt (.inr (Nat.le_refl _))).trans HB63.out
    have ho7 := MOwn.gset HO3.out rfl j h
    have he7 := hk.ext HE3.out (Nat.le_refl _)
    (try simp only at ho7)
    generalize w3.setCell ⟨gb, j, none⟩ (.int .i64 h) = w7 at hk hb7 ho7 he7 ⊢
    have HB7 := Lib.hid hb7
    have HO7 := Lib.hid ho7
    have HE7 := Lib.hid he7
    clear hk hb7 ho7 he7 y4 q0 q1 q2
    have Bz := Blk.keep HBz.out HE7.out
    have x0 := Bz.cellAt (i := 0) (by simp)
    have x1 := Bz.cellAt (i := 1) (by simp)
    have x2 := Bz.cellAt (i := 2) (by simp)
    have x3 := Bz.cellAt (i := 3) (by simp)
    have x4 := Bz.cellAt (i := 4) (by simp)
    have x5 := Bz.cellAt (i := 5) (by simp)
    have x6 := Bz.cellAt (i := 6) (by simp)
    have fz := Bz.free
    simp at x0 x1 x2 x3 x4 x5 x6
    have y0 := HB7.out.cellAt (i := 0) (by simp)
    have y1 := HB7.out.cellAt (i := 1) (by simp)
    have y2 := HB7.out.cellAt (i := 2) (by simp)
    have y3 := HB7.out.cellAt (i := 3) (by simp)
    have y4 := HB7.out.cellAt (i := 4) (by simp)
    have y5 := HB7.out.cellAt (i := 5) (by simp)
    have y6 := HB7.out.cellAt (i := 6) (by simp)
    simp at y0 y1 y2 y3 y4 y5 y6
    have lz : w.heap.size + 1 < w7.heap.size := Bz.lt
    go_wp2_with fail
    obtain ⟨b6', k6⟩ := store7 Bz (.int .i64 Hh1) (.slice A01 n01 c01) (.slice A11 n11 c11) (.slice A21 n21 c21) (.slice (some ⟨gb, 0, none⟩) n31 c31) (.int .i64 m.d) (.slice A41 n41 c41)
    have hO6 := HO7.out.out k6 (by omega)
    have hE6 := k6.ext (HE.out.trans HE7.out) (by omega)
    generalize (((((((w7.setCell ⟨w.heap.size + 1, 0, none⟩ (.int .i64 Hh1)).setCell ⟨w.heap.size + 1, 1, none⟩ (.slice A01 n01 c01)).setCell ⟨w.heap.size + 1, 2, none⟩ (.slice A11 n11 c11)).setCell ⟨w.heap.size + 1, 3, none⟩ (.slice A21 n21 c21)).setCell ⟨w.heap.size + 1, 4, none⟩ (.slice (some ⟨gb, 0, none⟩) n31 c31)).setCell ⟨w.heap.size + 1, 5, none⟩ (.int .i64 m.d)).setCell ⟨w.heap.size + 1, 6, none⟩ (.slice A41 n41 c41)) = w9 at b6' k6 hO6 hE6 ⊢
    have t0 := b6'.cellAt (i := 0) (by simp)
    have t1 := b6'.cellAt (i := 1) (by simp)
    have t2 := b6'.cellAt (i := 2) (by simp)
    have t3 := b6'.cellAt (i := 3) (by simp)
    have t4 := b6'.cellAt (i := 4) (by simp)
    have t5 := b6'.cellAt (i := 5) (by simp)
    have t6 := b6'.cellAt (i := 6) (by simp)
    simp at t0 t1 t2 t3 t4 t5 t6
    refine bodyPost_ret (v := .tuple #[MV.val ⟨Hh1, ⟨A01, n01, c01⟩, ⟨A11, n11, c11⟩, ⟨A21, n21, c21⟩, ⟨some ⟨gb, 0, none⟩, n31, c31⟩, m.d, ⟨A41, n41, c41⟩⟩, .bool true]) (by simp [results, Tryd.results57, go_sem, t0, t1, t2, t3, t4, t5, t6, MV.val, MV.cells]) rfl ?_
    exact ⟨_, (by rw [HF.out]), hE6, by rw [HM.out]; exact hO6.weak (by omega)⟩
end Go.Proofs.YtfhibjehnoibeaaDoor
/- Contracts of the laws' marks on rows of entries; no condition but what stands at each theorem. -/
namespace Go.Proofs.YtfhibjehnoibeaaDoor
set_option linter.unusedSimpArgs false
set_option linter.unusedVariables false
open Go.RowKit Go.Sort
def digM (m : Nat) : List UInt8 := if m = 0 then [] else Lib.decDigits m
theorem digM_step {m : Nat} (h : m ≠ 0) : digM m = digM (m / 10) ++ [UInt8.ofNat (48 + m % 10)] := by
  unfold digM
  rw [if_neg h, Lib.decDigits]
  by_cases h10 : m < 10
  · rw [dif_pos h10, if_pos (by omega), show m % 10 = m by omega]; rfl
  · rw [dif_neg h10, if_neg (by omega)]
/-- The text of a mark. -/
def mtxt (k : Nat) : ByteArray := ⟨((109 :: digM k).take 20).toArray⟩
theorem mtxt_size (k : Nat) : (mtxt k).size ≤ 20 := by
  unfold mtxt ByteArray.size
  simp only [List.size_toArray, List.length_take]
  omega
theorem strM_app (a b : List UInt8) : ((⟨a.toArray⟩ : ByteArray) ++ ⟨b.toArray⟩) = ⟨(a ++ b).toArray⟩ := by
  apply ByteArray.ext
  simp
theorem strM_cons (b : UInt8) (L : List UInt8) : ((⟨#[b]⟩ : ByteArray) ++ ⟨L.toArray⟩) = ⟨(b :: L).toArray⟩ := strM_app [b] L
theorem grown_ofExt {w w' : World} (e : Ext w w') (row : Option Nat) : w.grownBy w' row := ⟨e.os, e.tape, e.output, e.size, fun i hi _ => e.block i hi⟩
/-- A marked entry. -/
def markEnt (k : Int) : GEntry := ⟨k, mtxt (k + 1).toNat, k + 1 + 1, by have := mtxt_size (k + 1).toNat; omega⟩
def markEntryL (k : Int) (n : Nat) : List GEntry := (List.range n).map fun (i : Nat) => markEnt (k + ↑i * 3)
theorem markEntryL_len (k : Int) (n : Nat) : (markEntryL k n).length = n := by simp [markEntryL]
theorem markEntryL_snoc (k : Int) (i : Nat) : markEntryL k (i + 1) = markEntryL k i ++ [markEnt (k + ↑i * 3)] := by simp [markEntryL, List.range_succ]
theorem markEntryL_at (k : Int) (n : Nat) {i : Nat} (h : i < n) : (markEntryL k n)[i]? = some (markEnt (k + ↑i * 3)) := by simp [markEntryL, h]
end Go.Proofs.YtfhibjehnoibeaaDoor
/- Contracts of the laws' marks on museums; no condition but what stands at each theorem. -/
namespace Go.Proofs.YtfhibjehnoibeaaDoor
set_option linter.unusedSimpArgs false
set_option linter.unusedVariables false
open Go.RowKit Go.Sort
def mk1 (k : Int) (v : MV) : Int := k + v.sd.n * 2
def mk2 (k : Int) (v : MV) : Int := mk1 k v + v.sf.n
def mk3 (k : Int) (v : MV) : Int := mk2 k v + v.sp.n
def mk4 (k : Int) (v : MV) : Int := mk3 k v + v.sg.n
def markEnd (k : Int) (v : MV) : Int := mk4 k v + v.sr.n * 3
/-- The museum that the marks make. -/
def markMus (k : Int) (v : MV) (m : GMuseum) : GMuseum := ⟨m.H, markDoorL k v.sd.n, markIntL (mk1 k v) v.sf.n, markIntL (mk2 k v) v.sp.n, markIntL (mk3 k v) v.sg.n, m.d, markEntryL (mk4 k v) v.sr.n⟩
end Go.Proofs.YtfhibjehnoibeaaDoor
/- The walk of the law on NextDays; no condition. -/
namespace Go.Proofs.YtfhibjehnoibeaaDoor
set_option linter.unusedSimpArgs false
set_option linter.unusedVariables false
open Go.RowKit Go.Sort
theorem bulk_bdN {v : MV} {m : GMuseum} (h : bulkM v m ≤ 1048576) : v.sd.n ≤ 1048576 ∧ v.sf.n ≤ 1048576 ∧ v.sp.n ≤ 1048576 ∧ v.sg.n ≤ 1048576 ∧ v.sr.n ≤ 1048576 := by
  have := bulkE_nn m.rs
  unfold bulkM at h
  omega
theorem MRd.lens {w : World} {v : MV} {m : GMuseum} (h : MRd w v m) : m.ds.length = v.sd.n ∧ m.fs.length = v.sf.n ∧ m.ps.length = v.sp.n ∧ m.gs.length = v.sg.n ∧ m.rs.length = v.sr.n :=
  ⟨h.rd.len GDoor.len (by omega), h.rf.len ienc_len (by omega), h.rp.len ienc_len (by omega), h.rg.len ienc_len (by omega), h.rr.len GEntry.len (by omega)⟩
theorem markEnd_nn {v : MV} : ¬ markEnd 1 v < 0 := by unfold markEnd mk4 mk3 mk2 mk1; omega
theorem daysM_lens (m : GMuseum) (d : Int) : (daysM m d).ds.length = m.ds.length ∧ (daysM m d).fs.length = m.fs.length ∧ (daysM m d).ps.length = m.ps.length ∧ (daysM m d).gs.length = m.gs.length ∧ (daysM m d).rs.length = m.rs.length := by
  unfold daysM
  split <;> exact ⟨rfl, rfl, rfl, rfl, rfl⟩
theorem days_fit {w : World} {base : Nat} {v v' : MV} {m : GMuseum} {d : Int} (h : MOwn w base v (daysM m d)) {w' : World} (hx : MRd w' v' m) (hd : v'.sd.n ≤ 1048576) (hf : v'.sf.n ≤ 1048576) (hp : v'.sp.n ≤ 1048576) (hg : v'.sg.n ≤ 1048576) (hr : v'.sr.n ≤ 1048576) : MFit v := by
  obtain ⟨a1, a2, a3, a4, a5⟩ := h.rd.lens
  obtain ⟨b1, b2, b3, b4, b5⟩ := hx.lens
  obtain ⟨c1, c2, c3, c4, c5⟩ := daysM_lens m d
  exact MFit.of_own h (by omega) (by omega) (by omega) (by omega) (by omega)
end Go.Proofs.YtfhibjehnoibeaaDoor
