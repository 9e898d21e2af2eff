/- Texts of one proof, laid one behind the other (SNa, H7, H8, NM1, SHk); no condition but what stands at each theorem. -/
import Derived.Laws.IdiomStrings
import Derived.Lib.ItoaNum
import Derived.Test.YtkelmeemblmggaaDoorZC
import Derived.Test.YtkelmeemblmggaaDoorZF
import Derived.Test.YtkelmeemblmggaaDoorZG
/- Contract of the reference's GuardWalk; no condition but what stands at each theorem. -/
namespace Go.Proofs.YtkelmeemblmggaaDoor
set_option linter.unusedSimpArgs false
set_option linter.unusedVariables false
open Go.RowKit Go.Sort
theorem house_HG {H : Int} {ds : List GDoor} (h : houseB H ds = true) : 1 ≤ H ∧ H ≤ 7 := by
  have := houseB_spec h
  omega
set_option maxRecDepth 100000 in
set_option maxHeartbeats 4000000 in
theorem spec_GuardWalk (v : MV) (m : GMuseum) (g h : Int) (w : World) (hx : MRd w v m) (hf : MFit v) : Calls Tryd.prog 76 #[v.val, .int .i64 g, .int .i64 h] w (MPost (guardM m g h) (.bool (guardB m g h)) w) := by
  obtain ⟨wb, hwb⟩ : ∃ wb, wb = w.alloc (.cells v.cells 37) := ⟨_, rfl⟩
  have hbx := MBox.new hwb
  have hE : Ext w wb := by rw [hwb]; exact (Ext.refl w).alloc _
  obtain ⟨wz, hwz⟩ : ∃ wz, wz = wb.alloc (.cells #[.int .i64 0, .slice none 0 0, .slice none 0 0, .slice none 0 0, .slice none 0 0, .int .i64 0, .slice none 0 0] 37) := ⟨_, rfl⟩
  have hEz : Ext wb wz := by rw [hwz]; exact (Ext.refl wb).alloc _
  have hsb : wb.heap.size = w.heap.size + 1 := by rw [hwb]; simp
  have hsz : wz.heap.size = w.heap.size + 1 + 1 := by rw [hwz]; simp [hsb]
  have HBz : Hid (Blk wz (w.heap.size + 1) 37 #[.int .i64 0, .slice none 0 0, .slice none 0 0, .slice none 0 0, .slice none 0 0, .int .i64 0, .slice none 0 0]) := Lib.hid (by rw [hwz, ← hsb]; exact Blk.new _ _ _)
  have HX := Lib.hid (hx.keep (hE.trans hEz))
  have HB := Lib.hid (hbx.keep hEz)
  have HE := Lib.hid (hE.trans hEz)
  have cC := Lib.hid (spec_l38Copy v m wz HX.out hf)
  have cM := Lib.hid (fun W (he : Ext wz W) => spec_MuseumOk v m W (HX.out.keep he))
  obtain ⟨Hh, ⟨A0, n0, c0⟩, ⟨A1, n1, c1⟩, ⟨A2, n2, c2⟩, ⟨A3, n3, c3⟩, day, ⟨A4, n4, c4⟩⟩ := v
  have HLg : Hid (m.gs.length = n3) := HX.out.rg.len ienc_len (by omega)
  have hH : Hh = m.H := hx.eH
  subst hH
  have Hwz : Hid (wz = (w.alloc (.cells #[.int .i64 m.H, .slice A0 n0 c0, .slice A1 n1 c1, .slice A2 n2 c2, .slice A3 n3 c3, .int .i64 day, .slice A4 n4 c4] 37)).alloc (.cells #[.int .i64 0, .slice none 0 0, .slice none 0 0, .slice none 0 0, .slice none 0 0, .int .i64 0, .slice none 0 0] 37)) := Lib.hid (by rw [hwz, hwb]; rfl)
  have hday : day = m.d := hx.ed
  subst hday
  have hzl : w.heap.size + 1 < wz.heap.size := by omega
  clear hwb hwz hbx hE hEz hx hf hsb hsz
  show Calls Tryd.prog 76 #[.agg #[.int .i64 m.H, .slice A0 n0 c0, .slice A1 n1 c1, .slice A2 n2 c2, .slice A3 n3 c3, .int .i64 m.d, .slice A4 n4 c4], .int .i64 g, .int .i64 h] w _
  obtain ⟨b0, b1, b2, b3, b4, b5, b6⟩ := HB.out.cell
  simp only at b0 b1 b2 b3 b4 b5 b6
  have Hb0 := Lib.hid b0
  rw [Hwz.out] at b0 b1 b2 b3 b4 b5 b6
  go_enter Tryd.func76, Tryd.ntmps76
  go_wp2_with (go_at_call 88; refine (fun h : Hid _ => h.out) ?_)
  unfold Hid
  rw [← Hwz.out]
  refine cC.out.mono ?_
  rintro e w1 ⟨v1, hev, he1, ho1⟩
  obtain ⟨Hh1, ⟨A01, n01, c01⟩, ⟨A11, n11, c11⟩, ⟨A21, n21, c21⟩, ⟨A31, n31, c31⟩, day1, ⟨A41, n41, c41⟩⟩ := v1
  simp only [MV.val, MV.cells] at hev
  subst hev
  have hd1 : day1 = m.d := ho1.ed
  subst hd1
  obtain ⟨w2, hw2⟩ : ∃ w2, w2 = w1.alloc (.cells #[.int .i64 Hh1, .slice A01 n01 c01, .slice A11 n11 c11, .slice A21 n21 c21, .slice A31 n31 c31, .int .i64 m.d, .slice A41 n41 c41] 37) := ⟨_, rfl⟩
  have hB6 : Blk w2 w1.heap.size 37 #[.int .i64 Hh1, .slice A01 n01 c01, .slice A11 n11 c11, .slice A21 n21 c21, .slice A31 n31 c31, .int .i64 m.d, .slice A41 n41 c41] := by rw [hw2]; exact Blk.new _ _ _
  have he2 : Ext w1 w2 := by rw [hw2]; exact (Ext.refl _).alloc _
  have HB6 := Lib.hid hB6
  have HAT1 := MAt.of_own ho1
  have HO2 := Lib.hid (ho1.keep he2)
  have HE2 := Lib.hid (he1.trans he2)
  have HW2 := Lib.hid hw2
  have hz2 : wz.heap.size ≤ w1.heap.size := he1.size
  have hs2 : w2.heap.size = w1.heap.size + 1 := by rw [hw2]; simp
  have CM : Hid (∀ W, Ext wz W → Calls Tryd.prog 20 #[.agg #[.int .i64 m.H, .slice A0 n0 c0, .slice A1 n1 c1, .slice A2 n2 c2, .slice A3 n3 c3, .int .i64 m.d, .slice A4 n4 c4]] W fun e w' => e = .returned (.bool (museumB m)) ∧ Ext W w') := cM
  have CD : Hid (∀ W x y, Ext wz W → Calls Tryd.prog 89 #[.agg #[.int .i64 m.H, .slice A0 n0 c0], .int .i64 x, .int .i64 y] W fun e w' => e = .returned (.bool (doorB m.ds x y)) ∧ Ext W w') := Lib.hid fun W x y he => spec_l23Door m.H A0 n0 c0 m.ds x y W (HX.out.rd.keep he)
  clear hB6 he2 ho1 he1 hw2 b0 b1 b2 b3 b4 b5 b6 cC cM
  go_wp2_with fail
  rw [← HW2.out]
  obtain ⟨b0, b1, b2, b3, b4, b5, b6⟩ := (HB.out.keep HE2.out).cell
  simp only at b0 b1 b2 b3 b4 b5 b6
  have e0 := cell_regrown b0
  have e1 := cell_regrown b1
  have e2 := cell_regrown b2
  have e3 := cell_regrown b3
  have e4 := cell_regrown b4
  have e5 := cell_regrown b5
  have e6 := cell_regrown b6
  have HAT := Lib.hid HAT1
  have cM := CM.out
  cases hm : museumB m
  case false =>
    rw [hm] at cM
    have HF : Hid (guardB m g h = false) := Lib.hid (by simp [guardB, hm])
    have HM : Hid (guardM m g h = m) := Lib.hid (by rw [guardM, HF.out]; rfl)
    clear hm
    (refine wp_region_ext (by kernel_rfl) (by kernel_rfl) ?_; (repeat (go_big_quiet_step (first | (go_at_call 20; with_reducible exact Calls.rg (cM _ (HE2.out.trans (ext_rg _ _ _))))))); refine wpQuiet_nil ?_)
    intro w3 hb3
    have HE3 := Lib.hid (HE2.out.trans hb3)
    have HO3 := Lib.hid (HO2.out.keep hb3)
    have HB63 := Lib.hid (HB6.out.keep hb3)
    have hz3 : w2.heap.size ≤ w3.heap.size := hb3.size
    clear hb3 b0 b1 b2 b3 b4 b5 b6 e0 e1 e2 e3 e4 e5 e6
    have Bz := Blk.keep HBz.out HE3.out
    have x0 := Bz.cellAt (i := 0) (by simp)
    have x1 := Bz.cellAt (i := 1) (by simp)
    have x2 := Bz.cellAt (i := 2) (by simp)
    have x3 := Bz.cellAt (i := 3) (by simp)
    have x4 := Bz.cellAt (i := 4) (by simp)
    have x5 := Bz.cellAt (i := 5) (by simp)
    have x6 := Bz.cellAt (i := 6) (by simp)
    have fz := Bz.free
    simp at x0 x1 x2 x3 x4 x5 x6
    have y0 := HB63.out.cellAt (i := 0) (by simp)
    have y1 := HB63.out.cellAt (i := 1) (by simp)
    have y2 := HB63.out.cellAt (i := 2) (by simp)
    have y3 := HB63.out.cellAt (i := 3) (by simp)
    have y4 := HB63.out.cellAt (i := 4) (by simp)
    have y5 := HB63.out.cellAt (i := 5) (by simp)
    have y6 := HB63.out.cellAt (i := 6) (by simp)
    simp at y0 y1 y2 y3 y4 y5 y6
    have lz : w.heap.size + 1 < w3.heap.size := Bz.lt
    go_wp2_with fail
    obtain ⟨b6', k6⟩ := store7 Bz (.int .i64 Hh1) (.slice A01 n01 c01) (.slice A11 n11 c11) (.slice A21 n21 c21) (.slice A31 n31 c31) (.int .i64 m.d) (.slice A41 n41 c41)
    have hO6 := HO3.out.out k6 (by omega)
    have hE6 := k6.ext (HE.out.trans HE3.out) (by omega)
    generalize (((((((w3.setCell ⟨w.heap.size + 1, 0, none⟩ (.int .i64 Hh1)).setCell ⟨w.heap.size + 1, 1, none⟩ (.slice A01 n01 c01)).setCell ⟨w.heap.size + 1, 2, none⟩ (.slice A11 n11 c11)).setCell ⟨w.heap.size + 1, 3, none⟩ (.slice A21 n21 c21)).setCell ⟨w.heap.size + 1, 4, none⟩ (.slice A31 n31 c31)).setCell ⟨w.heap.size + 1, 5, none⟩ (.int .i64 m.d)).setCell ⟨w.heap.size + 1, 6, none⟩ (.slice A41 n41 c41)) = w9 at b6' k6 hO6 hE6 ⊢
    have t0 := b6'.cellAt (i := 0) (by simp)
    have t1 := b6'.cellAt (i := 1) (by simp)
    have t2 := b6'.cellAt (i := 2) (by simp)
    have t3 := b6'.cellAt (i := 3) (by simp)
    have t4 := b6'.cellAt (i := 4) (by simp)
    have t5 := b6'.cellAt (i := 5) (by simp)
    have t6 := b6'.cellAt (i := 6) (by simp)
    simp at t0 t1 t2 t3 t4 t5 t6
    refine bodyPost_ret (v := .tuple #[MV.val ⟨Hh1, ⟨A01, n01, c01⟩, ⟨A11, n11, c11⟩, ⟨A21, n21, c21⟩, ⟨A31, n31, c31⟩, m.d, ⟨A41, n41, c41⟩⟩, .bool false]) (by simp [results, Tryd.results76, go_sem, t0, t1, t2, t3, t4, t5, t6, MV.val, MV.cells]) rfl ?_
    exact ⟨_, (by rw [HF.out]), hE6, by rw [HM.out]; exact hO6.weak (by omega)⟩
  rw [hm] at cM
  have cB := fun W => spec_l01In g 0 ((m.gs.length : Int) - 1) W
  rw [HLg.out] at cB
  have hww : wrap64 ((n3 : Int) - 1) = (n3 : Int) - 1 := by have : n3 ≤ 9223372036854775807 := HX.out.rg.2.1; unfold wrap64; omega
  cases hi : inB g 0 ((n3 : Int) - 1)
  case false =>
    rw [hi] at cB
    have HF : Hid (guardB m g h = false) := Lib.hid (by rw [guardB, HLg.out, hi]; simp)
    have HM : Hid (guardM m g h = m) := Lib.hid (by rw [guardM, HF.out]; rfl)
    clear hm hi
    (refine wp_region_ext (by kernel_rfl) (by kernel_rfl) ?_; (repeat (go_big_quiet_step (first | (go_at_call 20; with_reducible exact Calls.rg (cM _ (HE2.out.trans (ext_rg _ _ _)))) | (go_at_call 43; with_reducible exact Calls.rg0 (cB _))))); refine wpQuiet_nil ?_)
    intro w3 hb3
    have HE3 := Lib.hid (HE2.out.trans hb3)
    have HO3 := Lib.hid (HO2.out.keep hb3)
    have HB63 := Lib.hid (HB6.out.keep hb3)
    have hz3 : w2.heap.size ≤ w3.heap.size := hb3.size
    clear hb3 b0 b1 b2 b3 b4 b5 b6 e0 e1 e2 e3 e4 e5 e6
    have Bz := Blk.keep HBz.out HE3.out
    have x0 := Bz.cellAt (i := 0) (by simp)
    have x1 := Bz.cellAt (i := 1) (by simp)
    have x2 := Bz.cellAt (i := 2) (by simp)
    have x3 := Bz.cellAt (i := 3) (by simp)
    have x4 := Bz.cellAt (i := 4) (by simp)
    have x5 := Bz.cellAt (i := 5) (by simp)
    have x6 := Bz.cellAt (i := 6) (by simp)
    have fz := Bz.free
    simp at x0 x1 x2 x3 x4 x5 x6
    have y0 := HB63.out.cellAt (i := 0) (by simp)
    have y1 := HB63.out.cellAt (i := 1) (by simp)
    have y2 := HB63.out.cellAt (i := 2) (by simp)
    have y3 := HB63.out.cellAt (i := 3) (by simp)
    have y4 := HB63.out.cellAt (i := 4) (by simp)
    have y5 := HB63.out.cellAt (i := 5) (by simp)
    have y6 := HB63.out.cellAt (i := 6) (by simp)
    simp at y0 y1 y2 y3 y4 y5 y6
    have lz : w.heap.size + 1 < w3.heap.size := Bz.lt
    go_wp2_with fail
    obtain ⟨b6', k6⟩ := store7 Bz (.int .i64 Hh1) (.slice A01 n01 c01) (.slice A11 n11 c11) (.slice A21 n21 c21) (.slice A31 n31 c31) (.int .i64 m.d) (.slice A41 n41 c41)
    have hO6 := HO3.out.out k6 (by omega)
    have hE6 := k6.ext (HE.out.trans HE3.out) (by omega)
    generalize (((((((w3.setCell ⟨w.heap.size + 1, 0, none⟩ (.int .i64 Hh1)).setCell ⟨w.heap.size + 1, 1, none⟩ (.slice A01 n01 c01)).setCell ⟨w.heap.size + 1, 2, none⟩ (.slice A11 n11 c11)).setCell ⟨w.heap.size + 1, 3, none⟩ (.slice A21 n21 c21)).setCell ⟨w.heap.size + 1, 4, none⟩ (.slice A31 n31 c31)).setCell ⟨w.heap.size + 1, 5, none⟩ (.int .i64 m.d)).setCell ⟨w.heap.size + 1, 6, none⟩ (.slice A41 n41 c41)) = w9 at b6' k6 hO6 hE6 ⊢
    have t0 := b6'.cellAt (i := 0) (by simp)
    have t1 := b6'.cellAt (i := 1) (by simp)
    have t2 := b6'.cellAt (i := 2) (by simp)
    have t3 := b6'.cellAt (i := 3) (by simp)
    have t4 := b6'.cellAt (i := 4) (by simp)
    have t5 := b6'.cellAt (i := 5) (by simp)
    have t6 := b6'.cellAt (i := 6) (by simp)
    simp at t0 t1 t2 t3 t4 t5 t6
    refine bodyPost_ret (v := .tuple #[MV.val ⟨Hh1, ⟨A01, n01, c01⟩, ⟨A11, n11, c11⟩, ⟨A21, n21, c21⟩, ⟨A31, n31, c31⟩, m.d, ⟨A41, n41, c41⟩⟩, .bool false]) (by simp [results, Tryd.results76, go_sem, t0, t1, t2, t3, t4, t5, t6, MV.val, MV.cells]) rfl ?_
    exact ⟨_, (by rw [HF.out]), hE6, by rw [HM.out]; exact hO6.weak (by omega)⟩
  rw [hi] at cB
  have hgs := guard_spec (h := h) hm (by rw [HLg.out]; exact hi)
  have hH := house_HG (museumB_house hm)
  have hir : 0 ≤ g ∧ g ≤ (n3 : Int) - 1 := by simpa [inB] using hi
  obtain ⟨j, rfl⟩ := Int.eq_ofNat_of_zero_le hir.1
  have hj : j < n3 := by omega
  obtain ⟨bg, og, x, rfl, hbg, hxk, p0⟩ := ienc_at (HX.out.rg.keep HE2.out) hj
  have r0 := cell_regrown p0
  have hgo : guardOf m j = x := by unfold guardOf; simp only [Int.toNat_natCast]; exact by simp [hxk]
  rw [hgo] at hgs
  have hwH : wrap64 (m.H - 1) = m.H - 1 := by unfold wrap64; omega
  have cH := fun W => spec_l01In h 0 (m.H - 1) W
  cases hh : inB h 0 (m.H - 1)
  case false =>
    rw [hh] at cH
    have HF : Hid (guardB m j h = false) := Lib.hid (hgs.trans (by rw [hh]; rfl))
    have HM : Hid (guardM m j h = m) := Lib.hid (by rw [guardM, HF.out]; rfl)
    clear hm hi hh hgs hgo hxk hH
    (refine wp_region_ext (by kernel_rfl) (by kernel_rfl) ?_; (repeat (go_big_quiet_step (first | (go_at_call 20; with_reducible exact Calls.rg (cM _ (HE2.out.trans (ext_rg _ _ _)))) | (go_at_call 43; with_reducible exact Calls.rg0 (cB _)) | (go_at_call 43; with_reducible exact Calls.rg0 (cH _))))); refine wpQuiet_nil ?_)
    intro w3 hb3
    have HE3 := Lib.hid (HE2.out.trans hb3)
    have HO3 := Lib.hid (HO2.out.keep hb3)
    have HB63 := Lib.hid (HB6.out.keep hb3)
    have hz3 : w2.heap.size ≤ w3.heap.size := hb3.size
    clear hb3 b0 b1 b2 b3 b4 b5 b6 e0 e1 e2 e3 e4 e5 e6
    clear p0 r0
    have Bz := Blk.keep HBz.out HE3.out
    have x0 := Bz.cellAt (i := 0) (by simp)
    have x1 := Bz.cellAt (i := 1) (by simp)
    have x2 := Bz.cellAt (i := 2) (by simp)
    have x3 := Bz.cellAt (i := 3) (by simp)
    have x4 := Bz.cellAt (i := 4) (by simp)
    have x5 := Bz.cellAt (i := 5) (by simp)
    have x6 := Bz.cellAt (i := 6) (by simp)
    have fz := Bz.free
    simp at x0 x1 x2 x3 x4 x5 x6
    have y0 := HB63.out.cellAt (i := 0) (by simp)
    have y1 := HB63.out.cellAt (i := 1) (by simp)
    have y2 := HB63.out.cellAt (i := 2) (by simp)
    have y3 := HB63.out.cellAt (i := 3) (by simp)
    have y4 := HB63.out.cellAt (i := 4) (by simp)
    have y5 := HB63.out.cellAt (i := 5) (by simp)
    have y6 := HB63.out.cellAt (i := 6) (by simp)
    simp at y0 y1 y2 y3 y4 y5 y6
    have lz : w.heap.size + 1 < w3.heap.size := Bz.lt
    go_wp2_with fail
    obtain ⟨b6', k6⟩ := store7 Bz (.int .i64 Hh1) (.slice A01 n01 c01) (.slice A11 n11 c11) (.slice A21 n21 c21) (.slice A31 n31 c31) (.int .i64 m.d) (.slice A41 n41 c41)
    have hO6 := HO3.out.out k6 (by omega)
    have hE6 := k6.ext (HE.out.trans HE3.out) (by omega)
    generalize (((((((w3.setCell ⟨w.heap.size + 1, 0, none⟩ (.int .i64 Hh1)).setCell ⟨w.heap.size + 1, 1, none⟩ (.slice A01 n01 c01)).setCell ⟨w.heap.size + 1, 2, none⟩ (.slice A11 n11 c11)).setCell ⟨w.heap.size + 1, 3, none⟩ (.slice A21 n21 c21)).setCell ⟨w.heap.size + 1, 4, none⟩ (.slice A31 n31 c31)).setCell ⟨w.heap.size + 1, 5, none⟩ (.int .i64 m.d)).setCell ⟨w.heap.size + 1, 6, none⟩ (.slice A41 n41 c41)) = w9 at b6' k6 hO6 hE6 ⊢
    have t0 := b6'.cellAt (i := 0) (by simp)
    have t1 := b6'.cellAt (i := 1) (by simp)
    have t2 := b6'.cellAt (i := 2) (by simp)
    have t3 := b6'.cellAt (i := 3) (by simp)
    have t4 := b6'.cellAt (i := 4) (by simp)
    have t5 := b6'.cellAt (i := 5) (by simp)
    have t6 := b6'.cellAt (i := 6) (by simp)
    simp at t0 t1 t2 t3 t4 t5 t6
    refine bodyPost_ret (v := .tuple #[MV.val ⟨Hh1, ⟨A01, n01, c01⟩, ⟨A11, n11, c11⟩, ⟨A21, n21, c21⟩, ⟨A31, n31, c31⟩, m.d, ⟨A41, n41, c41⟩⟩, .bool false]) (by simp [results, Tryd.results76, go_sem, t0, t1, t2, t3, t4, t5, t6, MV.val, MV.cells]) rfl ?_
    exact ⟨_, (by rw [HF.out]), hE6, by rw [HM.out]; exact hO6.weak (by omega)⟩
  rw [hh] at cH
  by_cases he : h = x
  case pos =>
    have hee : (h == x) = true := by simpa using he
    have HF : Hid (guardB m j h = false) := Lib.hid (hgs.trans (by simp [he]))
    have HM : Hid (guardM m j h = m) := Lib.hid (by rw [guardM, HF.out]; rfl)
    clear hm hi hh hgs hgo hxk hH he
    (refine wp_region_ext (by kernel_rfl) (by kernel_rfl) ?_; (repeat (go_big_quiet_step (first | (go_at_call 20; with_reducible exact Calls.rg (cM _ (HE2.out.trans (ext_rg _ _ _)))) | (go_at_call 43; with_reducible exact Calls.rg0 (cB _)) | (go_at_call 43; with_reducible exact Calls.rg0 (cH _))))); refine wpQuiet_nil ?_)
    intro w3 hb3
    have HE3 := Lib.hid (HE2.out.trans hb3)
    have HO3 := Lib.hid (HO2.out.keep hb3)
    have HB63 := Lib.hid (HB6.out.keep hb3)
    have hz3 : w2.heap.size ≤ w3.heap.size := hb3.size
    clear hb3 b0 b1 b2 b3 b4 b5 b6 e0 e1 e2 e3 e4 e5 e6
    clear p0 r0
    have Bz := Blk.keep HBz.out HE3.out
    have x0 := Bz.cellAt (i := 0) (by simp)
    have x1 := Bz.cellAt (i := 1) (by simp)
    have x2 := Bz.cellAt (i := 2) (by simp)
    have x3 := Bz.cellAt (i := 3) (by simp)
    have x4 := Bz.cellAt (i := 4) (by simp)
    have x5 := Bz.cellAt (i := 5) (by simp)
    have x6 := Bz.cellAt (i := 6) (by simp)
    have fz := Bz.free
    simp at x0 x1 x2 x3 x4 x5 x6
    have y0 := HB63.out.cellAt (i := 0) (by simp)
    have y1 := HB63.out.cellAt (i := 1) (by simp)
    have y2 := HB63.out.cellAt (i := 2) (by simp)
    have y3 := HB63.out.cellAt (i := 3) (by simp)
    have y4 := HB63.out.cellAt (i := 4) (by simp)
    have y5 := HB63.out.cellAt (i := 5) (by simp)
    have y6 := HB63.out.cellAt (i := 6) (by simp)
    simp at y0 y1 y2 y3 y4 y5 y6
    have lz : w.heap.size + 1 < w3.heap.size := Bz.lt
    go_wp2_with fail
    obtain ⟨b6', k6⟩ := store7 Bz (.int .i64 Hh1) (.slice A01 n01 c01) (.slice A11 n11 c11) (.slice A21 n21 c21) (.slice A31 n31 c31) (.int .i64 m.d) (.slice A41 n41 c41)
    have hO6 := HO3.out.out k6 (by omega)
    have hE6 := k6.ext (HE.out.trans HE3.out) (by omega)
    generalize (((((((w3.setCell ⟨w.heap.size + 1, 0, none⟩ (.int .i64 Hh1)).setCell ⟨w.heap.size + 1, 1, none⟩ (.slice A01 n01 c01)).setCell ⟨w.heap.size + 1, 2, none⟩ (.slice A11 n11 c11)).setCell ⟨w.heap.size + 1, 3, none⟩ (.slice A21 n21 c21)).setCell ⟨w.heap.size + 1, 4, none⟩ (.slice A31 n31 c31)).setCell ⟨w.heap.size + 1, 5, none⟩ (.int .i64 m.d)).setCell ⟨w.heap.size + 1, 6, none⟩ (.slice A41 n41 c41)) = w9 at b6' k6 hO6 hE6 ⊢
    have t0 := b6'.cellAt (i := 0) (by simp)
    have t1 := b6'.cellAt (i := 1) (by simp)
    have t2 := b6'.cellAt (i := 2) (by simp)
    have t3 := b6'.cellAt (i := 3) (by simp)
    have t4 := b6'.cellAt (i := 4) (by simp)
    have t5 := b6'.cellAt (i := 5) (by simp)
    have t6 := b6'.cellAt (i := 6) (by simp)
    simp at t0 t1 t2 t3 t4 t5 t6
    refine bodyPost_ret (v := .tuple #[MV.val ⟨Hh1, ⟨A01, n01, c01⟩, ⟨A11, n11, c11⟩, ⟨A21, n21, c21⟩, ⟨A31, n31, c31⟩, m.d, ⟨A41, n41, c41⟩⟩, .bool false]) (by simp [results, Tryd.results76, go_sem, t0, t1, t2, t3, t4, t5, t6, MV.val, MV.cells]) rfl ?_
    exact ⟨_, (by rw [HF.out]), hE6, by rw [HM.out]; exact hO6.weak (by omega)⟩
  have hee : (h == x) = false := by simpa using he
  have cD := fun W => CD.out W h x
  cases hd : doorB m.ds h x
  case false =>
    rw [hd] at cD
    have HF : Hid (guardB m j h = false) := Lib.hid (hgs.trans (by rw [hd]; simp))
    have HM : Hid (guardM m j h = m) := Lib.hid (by rw [guardM, HF.out]; rfl)
    clear hm hi hh hd hgs hgo hxk hH he
    (refine wp_region_ext (by kernel_rfl) (by kernel_rfl) ?_; (repeat (go_big_quiet_step (first | (go_at_call 20; with_reducible exact Calls.rg (cM _ (HE2.out.trans (ext_rg _ _ _)))) | (go_at_call 43; with_reducible exact Calls.rg0 (cB _)) | (go_at_call 43; with_reducible exact Calls.rg0 (cH _)) | (go_at_call 89; with_reducible exact Calls.rg (cD _ (HE2.out.trans (ext_rg _ _ _))))))); refine wpQuiet_nil ?_)
    intro w3 hb3
    have HE3 := Lib.hid (HE2.out.trans hb3)
    have HO3 := Lib.hid (HO2.out.keep hb3)
    have HB63 := Lib.hid (HB6.out.keep hb3)
    have hz3 : w2.heap.size ≤ w3.heap.size := hb3.size
    clear hb3 b0 b1 b2 b3 b4 b5 b6 e0 e1 e2 e3 e4 e5 e6
    clear p0 r0
    have Bz := Blk.keep HBz.out HE3.out
    have x0 := Bz.cellAt (i := 0) (by simp)
    have x1 := Bz.cellAt (i := 1) (by simp)
    have x2 := Bz.cellAt (i := 2) (by simp)
    have x3 := Bz.cellAt (i := 3) (by simp)
    have x4 := Bz.cellAt (i := 4) (by simp)
    have x5 := Bz.cellAt (i := 5) (by simp)
    have x6 := Bz.cellAt (i := 6) (by simp)
    have fz := Bz.free
    simp at x0 x1 x2 x3 x4 x5 x6
    have y0 := HB63.out.cellAt (i := 0) (by simp)
    have y1 := HB63.out.cellAt (i := 1) (by simp)
    have y2 := HB63.out.cellAt (i := 2) (by simp)
    have y3 := HB63.out.cellAt (i := 3) (by simp)
    have y4 := HB63.out.cellAt (i := 4) (by simp)
    have y5 := HB63.out.cellAt (i := 5) (by simp)
    have y6 := HB63.out.cellAt (i := 6) (by simp)
    simp at y0 y1 y2 y3 y4 y5 y6
    have lz : w.heap.size + 1 < w3.heap.size := Bz.lt
    go_wp2_with fail
    obtain ⟨b6', k6⟩ := store7 Bz (.int .i64 Hh1) (.slice A01 n01 c01) (.slice A11 n11 c11) (.slice A21 n21 c21) (.slice A31 n31 c31) (.int .i64 m.d) (.slice A41 n41 c41)
    have hO6 := HO3.out.out k6 (by omega)
    have hE6 := k6.ext (HE.out.trans HE3.out) (by omega)
    generalize (((((((w3.setCell ⟨w.heap.size + 1, 0, none⟩ (.int .i64 Hh1)).setCell ⟨w.heap.size + 1, 1, none⟩ (.slice A01 n01 c01)).setCell ⟨w.heap.size + 1, 2, none⟩ (.slice A11 n11 c11)).setCell ⟨w.heap.size + 1, 3, none⟩ (.slice A21 n21 c21)).setCell ⟨w.heap.size + 1, 4, none⟩ (.slice A31 n31 c31)).setCell ⟨w.heap.size + 1, 5, none⟩ (.int .i64 m.d)).setCell ⟨w.heap.size + 1, 6, none⟩ (.slice A41 n41 c41)) = w9 at b6' k6 hO6 hE6 ⊢
    have t0 := b6'.cellAt (i := 0) (by simp)
    have t1 := b6'.cellAt (i := 1) (by simp)
    have t2 := b6'.cellAt (i := 2) (by simp)
    have t3 := b6'.cellAt (i := 3) (by simp)
    have t4 := b6'.cellAt (i := 4) (by simp)
    have t5 := b6'.cellAt (i := 5) (by simp)
    have t6 := b6'.cellAt (i := 6) (by simp)
    simp at t0 t1 t2 t3 t4 t5 t6
    refine bodyPost_ret (v := .tuple #[MV.val ⟨Hh1, ⟨A01, n01, c01⟩, ⟨A11, n11, c11⟩, ⟨A21, n21, c21⟩, ⟨A31, n31, c31⟩, m.d, ⟨A41, n41, c41⟩⟩, .bool false]) (by simp [results, Tryd.results76, go_sem, t0, t1, t2, t3, t4, t5, t6, MV.val, MV.cells]) rfl ?_
    exact ⟨_, (by rw [HF.out]), hE6, by rw [HM.out]; exact hO6.weak (by omega)⟩
  case true =>
    rw [hd] at cD
    have HF : Hid (guardB m j h = true) := Lib.hid (hgs.trans (by rw [hh, hd]; simp [he]))
    have HM : Hid (guardM m j h = { m with gs := m.gs.set j h }) := Lib.hid (by rw [guardM, HF.out]; rfl)
    clear hm hi hh hd hgs hgo hxk hH he
    (refine wp_region_ext (by kernel_rfl) (by kernel_rfl) ?_; (repeat (go_big_quiet_step (first | (go_at_call 20; with_reducible exact Calls.rg (cM _ (HE2.out.trans (ext_rg _ _ _)))) | (go_at_call 43; with_reducible exact Calls.rg0 (cB _)) | (go_at_call 43; with_reducible exact Calls.rg0 (cH _)) | (go_at_call 89; with_reducible exact Calls.rg (cD _ (HE2.out.trans (ext_rg _ _ _))))))); refine wpQuiet_nil ?_)
    intro w3 hb3
    have HE3 := Lib.hid (HE2.out.trans hb3)
    have HO3 := Lib.hid (HO2.out.keep hb3)
    have HB63 := Lib.hid (HB6.out.keep hb3)
    have hz3 : w2.heap.size ≤ w3.heap.size := hb3.size
    clear hb3 b0 b1 b2 b3 b4 b5 b6 e0 e1 e2 e3 e4 e5 e6
    clear p0 r0
    have hl31 := HO3.out.rd.rg.len ienc_len (by omega)
    simp only at hl31
    have hj31 : j < n31 := by (have := HLg.out; omega)
    obtain ⟨gb, hA, hbg, hblk⟩ := PBlk.of_own HO3.out.og (by show 1 ≤ n31; omega)
    simp only at hA
    subst hA
    have hat := HAT.out.2.2.2.1 gb (by rfl)
    have q0 := hblk.cell (i := j) (by omega)
    have q1 := hblk.free j
    have q2 := hblk.lt
    have y4 := HB63.out.cellAt (i := 4) (by simp)
    simp at y4
    clear hl31 hblk
    go_upto_region 5 with fail
    have hk := KeptOut.of_grown (lo := wz.heap.size) (hi := w1.heap.size) (grown_set (grown_refl w3 (some gb)) j (.int .i64 h)) (fun k hk => by injection hk with hk; omega)
    have hb7 : Blk (w3.setCell ⟨gb, j, none⟩ (.int .i64 h)) w1.heap.size _ _ := (hk.2 _ HB63.out.lt (.inr (Nat.le_refl _))).trans HB63.out
    have ho7 := MOwn.gset HO3.out rfl j h
    have he7 := hk.ext HE3.out (Nat.le_refl _)
    (try simp only at ho7)
    generalize w3.setCell ⟨gb, j, none⟩ (.int .i64 h) = w7 at hk hb7 ho7 he7 ⊢
    have HB7 := Lib.hid hb7
    have HO7 := Lib.hid ho7
    have HE7 := Lib.hid he7
    clear hk hb7 ho7 he7 y4 q0 q1 q2
    have Bz := Blk.keep HBz.out HE7.out
    have x0 := Bz.cellAt (i := 0) (by simp)
    have x1 := Bz.cellAt (i := 1) (by simp)
    have x2 := Bz.cellAt (i := 2) (by simp)
    have x3 := Bz.cellAt (i := 3) (by simp)
    have x4 := Bz.cellAt (i := 4) (by simp)
    have x5 := Bz.cellAt (i := 5) (by simp)
    have x6 := Bz.cellAt (i := 6) (by simp)
    have fz := Bz.free
    simp at x0 x1 x2 x3 x4 x5 x6
    have y0 := HB7.out.cellAt (i := 0) (by simp)
    have y1 := HB7.out.cellAt (i := 1) (by simp)
    have y2 := HB7.out.cellAt (i := 2) (by simp)
    have y3 := HB7.out.cellAt (i := 3) (by simp)
    have y4 := HB7.out.cellAt (i := 4) (by simp)
    have y5 := HB7.out.cellAt (i := 5) (by simp)
    have y6 := HB7.out.cellAt (i := 6) (by simp)
    simp at y0 y1 y2 y3 y4 y5 y6
    have lz : w.heap.size + 1 < w7.heap.size := Bz.lt
    go_wp2_with fail
    obtain ⟨b6', k6⟩ := store7 Bz (.int .i64 Hh1) (.slice A01 n01 c01) (.slice A11 n11 c11) (.slice A21 n21 c21) (.slice (some ⟨gb, 0, none⟩) n31 c31) (.int .i64 m.d) (.slice A41 n41 c41)
    have hO6 := HO7.out.out k6 (by omega)
    have hE6 := k6.ext (HE.out.trans HE7.out) (by omega)
    generalize (((((((w7.setCell ⟨w.heap.size + 1, 0, none⟩ (.int .i64 Hh1)).setCell ⟨w.heap.size + 1, 1, none⟩ (.slice A01 n01 c01)).setCell ⟨w.heap.size + 1, 2, none⟩ (.slice A11 n11 c11)).setCell ⟨w.heap.size + 1, 3, none⟩ (.slice A21 n21 c21)).setCell ⟨w.heap.size + 1, 4, none⟩ (.slice (some ⟨gb, 0, none⟩) n31 c31)).setCell ⟨w.heap.size + 1, 5, none⟩ (.int .i64 m.d)).setCell ⟨w.heap.size + 1, 6, none⟩ (.slice A41 n41 c41)) = w9 at b6' k6 hO6 hE6 ⊢
    have t0 := b6'.cellAt (i := 0) (by simp)
    have t1 := b6'.cellAt (i := 1) (by simp)
    have t2 := b6'.cellAt (i := 2) (by simp)
    have t3 := b6'.cellAt (i := 3) (by simp)
    have t4 := b6'.cellAt (i := 4) (by simp)
    have t5 := b6'.cellAt (i := 5) (by simp)
    have t6 := b6'.cellAt (i := 6) (by simp)
    simp at t0 t1 t2 t3 t4 t5 t6
    refine bodyPost_ret (v := .tuple #[MV.val ⟨Hh1, ⟨A01, n01, c01⟩, ⟨A11, n11, c11⟩, ⟨A21, n21, c21⟩, ⟨some ⟨gb, 0, none⟩, n31, c31⟩, m.d, ⟨A41, n41, c41⟩⟩, .bool true]) (by simp [results, Tryd.results76, go_sem, t0, t1, t2, t3, t4, t5, t6, MV.val, MV.cells]) rfl ?_
    exact ⟨_, (by rw [HF.out]), hE6, by rw [HM.out]; exact hO6.weak (by omega)⟩
end Go.Proofs.YtkelmeemblmggaaDoor
/- Contracts of the laws' marks on rows of entries; no condition but what stands at each theorem. -/
namespace Go.Proofs.YtkelmeemblmggaaDoor
set_option linter.unusedSimpArgs false
set_option linter.unusedVariables false
open Go.RowKit Go.Sort
def digM (m : Nat) : List UInt8 := if m = 0 then [] else Lib.decDigits m
theorem digM_step {m : Nat} (h : m ≠ 0) : digM m = digM (m / 10) ++ [UInt8.ofNat (48 + m % 10)] := by
  unfold digM
  rw [if_neg h, Lib.decDigits]
  by_cases h10 : m < 10
  · rw [dif_pos h10, if_pos (by omega), show m % 10 = m by omega]; rfl
  · rw [dif_neg h10, if_neg (by omega)]
/-- The text of a mark. -/
def mtxt (k : Nat) : ByteArray := ⟨((109 :: digM k).take 20).toArray⟩
theorem mtxt_size (k : Nat) : (mtxt k).size ≤ 20 := by
  unfold mtxt ByteArray.size
  simp only [List.size_toArray, List.length_take]
  omega
theorem strM_app (a b : List UInt8) : ((⟨a.toArray⟩ : ByteArray) ++ ⟨b.toArray⟩) = ⟨(a ++ b).toArray⟩ := by
  apply ByteArray.ext
  simp
theorem strM_cons (b : UInt8) (L : List UInt8) : ((⟨#[b]⟩ : ByteArray) ++ ⟨L.toArray⟩) = ⟨(b :: L).toArray⟩ := strM_app [b] L
theorem convM1 (w : World) (x : Nat) (h : x < 256) : (convert 44 9 (.slice (some ⟨w.heap.size, 0, none⟩) 1 1)).run Tryd.prog (w.alloc (.cells #[.int .u8 (x : Int)] 5)) = .ok (.string ⟨#[UInt8.ofNat x]⟩) (w.alloc (.cells #[.int .u8 (x : Int)] 5)) := by
  refine run_convert_bytes_back (P := Tryd.prog) _ 44 9 5 _ 1 [UInt8.ofNat x] Tryd.underlying44 Tryd.underlying5 Tryd.underlying9 ?_
  intro j hj
  simp only [List.length_cons, List.length_nil] at hj
  obtain rfl : j = 0 := by omega
  rw [add_none, World.cell?_alloc_new]
  simp [Nat.mod_eq_of_lt h]
set_option maxRecDepth 100000 in
set_option maxHeartbeats 1000000 in
theorem laws_markText (n : Nat) (w : World) (hn0 : 0 < n) (h : n ≤ 1000000000000) : Calls Tryd.prog 34 #[.int .i64 n] w fun e w' => e = .returned (.string (mtxt n)) ∧ Ext w w' := by
  have g0 : ¬ (n : Int) ≤ 0 := by omega
  go_enter Tryd.func34, Tryd.ntmps34
  go_wp2_with fail
  go_loopw [0, 3] (fun z t wr => ∃ (m : Nat) (L : List UInt8), z = .int .i64 (m : Int) ∧ t = .string ⟨L.toArray⟩ ∧ m ≤ 1000000000000 ∧ L.length ≤ 13 ∧ Hid (m < 10 ^ (13 - L.length)) ∧ Hid (Lib.decDigits n = digM m ++ L) ∧ Ext w wr) (fun z _ _ => (intOf z).toNat)
  case atStart => exact ⟨n, [], rfl, rfl, h, by simp, by unfold Hid; simp; omega, by unfold Hid digM; rw [if_neg (by omega)]; simp, Ext.refl _⟩
  case round =>
    obtain ⟨m, L, rfl, rfl, hm, hL13, hpw, hz, hb⟩ := hrel
    have HB := Lib.hid hb
    clear hb
    by_cases hm0 : m = 0
    · subst hm0
      have HT : Hid (mtxt n = (⟨#[109]⟩ : ByteArray) ++ ⟨L.toArray⟩) := by
        have h2 := hz.out
        unfold Hid mtxt
        rw [strM_cons, digM, if_neg (by omega), h2]
        simp only [digM, if_true, List.nil_append]
        rw [List.take_of_length_le (by simp; omega)]
      have f1 : ¬ (0 : Int) < ((0 : Nat) : Int) := by omega
      go_wp2_with fail
      go_ret
      exact ⟨by rw [HT.out]; rfl, HB.out⟩
    · have f1 : (0 : Int) < (m : Int) := by omega
      have HZ : Hid (Lib.decDigits n = digM (m / 10) ++ (UInt8.ofNat (48 + m % 10) :: L)) := by
        unfold Hid
        rw [hz.out, digM_step hm0, List.append_assoc]
        rfl
      have hd : m % 10 ≤ 9 := by omega
      have hcv := fun (w : World) => convM1 w (48 + m % 10) (by omega)
      have ec : ((48 + m % 10 : Nat) : Int) = 48 + (m : Int) % 10 := by push_cast; rfl
      rw [ec] at hcv
      have hm1 : m / 10 < m := by omega
      have hL12 : L.length ≤ 12 := by
        have h2 := hpw.out
        have : L.length ≠ 13 := by
          intro e; rw [e] at h2; simp at h2; omega
        omega
      have HPw : Hid (m / 10 < 10 ^ (13 - (UInt8.ofNat (48 + m % 10) :: L).length)) := by
        have h2 := hpw.out
        unfold Hid
        rw [show 13 - L.length = (12 - L.length) + 1 by omega, Nat.pow_succ] at h2
        rw [List.length_cons, show 13 - (L.length + 1) = 12 - L.length by omega]
        exact Nat.div_lt_of_lt_mul (by omega)
      clear ec
      go_wp2_with fail
      go_roundw
      case rel => exact ⟨m / 10, UInt8.ofNat (48 + m % 10) :: L, by go_num, by rw [strM_cons, UInt8.ofNat_add]; rfl, by omega, by simp; omega, HPw, HZ, HB.out.alloc _⟩
      case measure => simp [intOf]; omega
theorem grown_ofExt {w w' : World} (e : Ext w w') (row : Option Nat) : w.grownBy w' row := ⟨e.os, e.tape, e.output, e.size, fun i hi _ => e.block i hi⟩
/-- A marked entry. -/
def markEnt (k : Int) : GEntry := ⟨k, mtxt (k + 1).toNat, k + 1 + 1, by have := mtxt_size (k + 1).toNat; omega⟩
def markEntryL (k : Int) (n : Nat) : List GEntry := (List.range n).map fun (i : Nat) => markEnt (k + ↑i * 3)
theorem markEntryL_len (k : Int) (n : Nat) : (markEntryL k n).length = n := by simp [markEntryL]
theorem markEntryL_snoc (k : Int) (i : Nat) : markEntryL k (i + 1) = markEntryL k i ++ [markEnt (k + ↑i * 3)] := by simp [markEntryL, List.range_succ]
theorem markEntryL_at (k : Int) (n : Nat) {i : Nat} (h : i < n) : (markEntryL k n)[i]? = some (markEnt (k + ↑i * 3)) := by simp [markEntryL, h]
set_option maxRecDepth 100000 in
set_option maxHeartbeats 1000000 in
theorem laws_markEntryS (A : Option Addr) (n c : Nat) (k : Int) (base : Nat) (L : List Value) (w : World) (ho : w.ownsRow base 51 3 (.slice A n c) n L) (hn : n ≤ 1048576) (hk0 : 0 ≤ k) (hk1 : k ≤ 1000000000) :
    Calls Tryd.prog 33 #[.slice A n c, .int .i64 k] w fun e w' => e = .returned (.int .i64 (k + ↑n * 3)) ∧ w'.ownsRow base 51 3 (.slice A n c) n ((markEntryL k n).flatMap GEntry.enc) ∧ w.grownBy w' (Value.slice A n c).ownBlock := by
  rcases own_block ho with ⟨rfl, rfl, rfl⟩ | ⟨g, cur0, rfl, hbg, hb0, hnc, hcm, hcs, ht⟩
  · go_enter Tryd.func33, Tryd.ntmps33
    go_wp2_with fail
    refine wp_loop_rounds 1 ?_
    rw [rounds_succ]
    go_wp2
    go_ret
    exact ⟨ret_int (by simp), World.ownsRow_nil _ _ _ _, grown_refl _ _⟩
  · go_enter Tryd.func33, Tryd.ntmps33
    go_wp2_with fail
    go_loopw [1, 5] (fun kv iv wr => ∃ (i : Nat) (cur : Array Value), i ≤ n ∧ iv = .int .i64 i ∧ kv = .int .i64 (k + ↑i * 3) ∧ cur.size = c * 3 ∧ Hid (cur.toList.take (i * 3) = (markEntryL k i).flatMap GEntry.enc) ∧ Blk wr g 51 cur ∧ w.grownBy wr (some g)) (fun _ iv _ => n - (intOf iv).toNat)
    case atStart => exact ⟨0, cur0, Nat.zero_le _, rfl, by simp, hcs, by unfold Hid; simp [markEntryL], hb0, grown_refl _ _⟩
    case round =>
      obtain ⟨i, cur, hi, rfl, rfl, hcz, hz, hblk, hg⟩ := hrel
      by_cases hlt : i < n
      · have hcm' := Nat.mul_le_mul_right 3 hnc
        have c0 := hblk.cellAt (i := i * 3) (by omega)
        have f0 := hblk.free (i * 3)
        have HBk := Lib.hid hblk
        have HG := Lib.hid hg
        clear hblk hg
        go_wp2_with (go_at_call 34; refine (fun h : Hid _ => h.out) ?_)
        unfold Hid
        obtain ⟨q, hq⟩ := Int.eq_ofNat_of_zero_le (show 0 ≤ k + ↑i * 3 + 1 by omega)
        have cT := laws_markText q (wr.setCell ⟨g, i * 3, none⟩ (.int .i64 (k + ↑i * 3))) (by omega) (by omega)
        rw [← hq] at cT
        have hq2 : Hid (mtxt q = mtxt (k + ↑i * 3 + 1).toNat) := Lib.hid (by rw [hq]; rfl)
        clear hq
        refine cT.mono ?_
        rintro e w2 ⟨rfl, e2⟩
        have hb1 := (HBk.out.set (i * 3) (.int .i64 (k + ↑i * 3))).keep e2
        have hg1 := grown_trans (grown_set HG.out (i * 3) (.int .i64 (k + ↑i * 3))) (grown_ofExt e2 (some g))
        have HB2 := Lib.hid hb1
        have HG2 := Lib.hid hg1
        have c1 := hb1.cellAt (i := i * 3 + 1) (by simp; omega)
        have f1 := hb1.free (i * 3 + 1)
        have c2 := hb1.cellAt (i := i * 3 + 2) (by simp; omega)
        have f2 := hb1.free (i * 3 + 2)
        have hl2 := hb1.lt
        have HE : Hid (setRow cur (i * 3) [.int .i64 (k + ↑i * 3), .string (mtxt q), .int .i64 (k + ↑i * 3 + 1 + 1)] = ((cur.setIfInBounds (i * 3) (.int .i64 (k + ↑i * 3))).setIfInBounds (i * 3 + 1) (.string (mtxt q))).setIfInBounds (i * 3 + 2) (.int .i64 (k + ↑i * 3 + 1 + 1))) := Lib.hid (by simp only [setRow])
        clear cT e2 hb1 hg1 c0 f0
        go_wp2_with fail
        go_roundw
        case rel =>
          refine ⟨i + 1, setRow cur (i * 3) [.int .i64 (k + ↑i * 3), .string (mtxt q), .int .i64 (k + ↑i * 3 + 1 + 1)], by omega, by go_num, mark_num (by push_cast; omega), by rw [setRow_size]; exact hcz, ?_, ?_, ?_⟩
          · unfold Hid
            rw [markEntryL_snoc, List.flatMap_append, hq2.out]
            exact setRow_take (m := 3) rfl (by rw [hcz]; omega) hz.out
          · have hE := HE.out
            have hb3 := (HB2.out.set (i * 3 + 1) (.string (mtxt q))).set (i * 3 + 2) (.int .i64 (k + ↑i * 3 + 1 + 1))
            rw [← hE] at hb3
            exact hb3
          · exact grown_set (grown_set HG2.out (i * 3 + 1) (.string (mtxt q))) (i * 3 + 2) (.int .i64 (k + ↑i * 3 + 1 + 1))
        case measure => simp [intOf]; omega
      · obtain rfl : i = n := by omega
        go_wp2_with fail
        go_ret
        refine ⟨ret_int (by first | rfl | omega), ⟨by rw [flat_len GEntry.enc 3 GEntry.len, markEntryL_len], .inr ⟨g, c, cur, rfl, hbg, hblk, hnc, hcm, hcz, hz.out⟩⟩, hg⟩
end Go.Proofs.YtkelmeemblmggaaDoor
/- Contracts of the laws' marks on museums; no condition but what stands at each theorem. -/
namespace Go.Proofs.YtkelmeemblmggaaDoor
set_option linter.unusedSimpArgs false
set_option linter.unusedVariables false
open Go.RowKit Go.Sort
def mk1 (k : Int) (v : MV) : Int := k + v.sd.n * 2
def mk2 (k : Int) (v : MV) : Int := mk1 k v + v.sf.n
def mk3 (k : Int) (v : MV) : Int := mk2 k v + v.sp.n
def mk4 (k : Int) (v : MV) : Int := mk3 k v + v.sg.n
def markEnd (k : Int) (v : MV) : Int := mk4 k v + v.sr.n * 3
/-- The museum that the marks make. -/
def markMus (k : Int) (v : MV) (m : GMuseum) : GMuseum := ⟨m.H, markDoorL k v.sd.n, markIntL (mk1 k v) v.sf.n, markIntL (mk2 k v) v.sp.n, markIntL (mk3 k v) v.sg.n, m.d, markEntryL (mk4 k v) v.sr.n⟩
set_option maxRecDepth 100000 in
set_option maxHeartbeats 2000000 in
theorem laws_markMuseum (v : MV) (m : GMuseum) (k : Int) (base hi : Nat) (w : World) (ho : MOwn w base v m) (hat : MAt base hi v) (hf : MFit v) (hhi : hi ≤ w.heap.size) (hk0 : 0 ≤ k) (hk1 : k ≤ 1000000) :
    Calls Tryd.prog 11 #[v.val, .int .i64 k] w fun e w' => e = .returned (.int .i64 (markEnd k v)) ∧ MOwn w' base v (markMus k v m) ∧ KeptOut base hi w w' := by
  obtain ⟨wb, hwb⟩ : ∃ wb, wb = w.alloc (.cells v.cells 37) := ⟨_, rfl⟩
  have hbx := MBox.new hwb
  have hE : Ext w wb := by rw [hwb]; exact (Ext.refl w).alloc _
  have HO := Lib.hid (ho.keep hE)
  have HAT := Lib.hid hat
  obtain ⟨d1, d2, d3, d4, f1, f2, f3, p1, p2, g1⟩ := aparts ho.ap
  have HAP := Lib.hid ho.ap
  have HeH := Lib.hid ho.eH
  have Hed := Lib.hid ho.ed
  have nd := hf.nd
  have nf := hf.nf
  have np := hf.np
  have ng := hf.ng
  have nr := hf.nr
  have HK0 : Hid (KeptOut base hi w wb) := Lib.hid (.of_ext hE)
  have HB := Lib.hid hbx
  have HD1 := Lib.hid d1
  have HD2 := Lib.hid d2
  have HD3 := Lib.hid d3
  have HD4 := Lib.hid d4
  have HF1 := Lib.hid f1
  have HF2 := Lib.hid f2
  have HF3 := Lib.hid f3
  have HP1 := Lib.hid p1
  have HP2 := Lib.hid p2
  have HG1 := Lib.hid g1
  obtain ⟨Hh, ⟨A0, n0, c0⟩, ⟨A1, n1, c1⟩, ⟨A2, n2, c2⟩, ⟨A3, n3, c3⟩, day, ⟨A4, n4, c4⟩⟩ := v
  simp only at nd nf np ng nr
  have Hwb : Hid (wb = w.alloc (.cells #[.int .i64 Hh, .slice A0 n0 c0, .slice A1 n1 c1, .slice A2 n2 c2, .slice A3 n3 c3, .int .i64 day, .slice A4 n4 c4] 37)) := hwb
  clear hwb hbx hE ho hat d1 d2 d3 d4 f1 f2 f3 p1 p2 g1 hf
  show Calls Tryd.prog 11 #[.agg #[.int .i64 Hh, .slice A0 n0 c0, .slice A1 n1 c1, .slice A2 n2 c2, .slice A3 n3 c3, .int .i64 day, .slice A4 n4 c4], .int .i64 k] w _
  have b0 := HB.out.c0
  have b1 := HB.out.c1
  simp only at b0 b1
  go_enter Tryd.func11, Tryd.ntmps11
  go_wp2_with (go_at_call 31; refine (fun h : Hid _ => h.out) ?_)
  unfold Hid
  rw [← Hwb.out]
  refine (laws_markHouse Hh A0 n0 c0 k base _ wb HO.out.od nd hk0 (by omega)).mono ?_
  rintro e w1 ⟨rfl, o1, g1⟩
  have K1 := Lib.hid (KeptOut.of_at g1 HAT.out.1)
  have O1 := Lib.hid o1
  have F1 := Lib.hid (own_apart HO.out.of_ (Apart.symm HD1.out) g1)
  have P1 := Lib.hid (own_apart HO.out.op (Apart.symm HD2.out) g1)
  have G1 := Lib.hid (own_apart HO.out.og (Apart.symm HD3.out) g1)
  have R1 := Lib.hid (own_apart HO.out.or_ (Apart.symm HD4.out) g1)
  have B1 := Lib.hid (HB.out.out K1.out (.inr hhi))
  clear g1 o1 b0 b1
  have b2 := B1.out.c2
  simp only at b2
  go_wp2_with (go_at_call 32; refine (fun h : Hid _ => h.out) ?_)
  unfold Hid
  refine (laws_markIntS A1 n1 c1 _ base _ w1 F1.out nf (by omega) (by omega)).mono ?_
  rintro e w2 ⟨rfl, o2, g2⟩
  have K2 := Lib.hid (KeptOut.trans K1.out (KeptOut.of_at g2 HAT.out.2.1))
  have F2 := Lib.hid o2
  have O2 := Lib.hid (own_apart O1.out HD1.out g2)
  have P2 := Lib.hid (own_apart P1.out (Apart.symm HF1.out) g2)
  have G2 := Lib.hid (own_apart G1.out (Apart.symm HF2.out) g2)
  have R2 := Lib.hid (own_apart R1.out (Apart.symm HF3.out) g2)
  have B2 := Lib.hid (HB.out.out K2.out (.inr hhi))
  clear g2 o2 b2
  have b3 := B2.out.c3
  simp only at b3
  go_wp2_with (go_at_call 32; refine (fun h : Hid _ => h.out) ?_)
  unfold Hid
  refine (laws_markIntS A2 n2 c2 _ base _ w2 P2.out np (by omega) (by omega)).mono ?_
  rintro e w3 ⟨rfl, o3, g3⟩
  have K3 := Lib.hid (KeptOut.trans K2.out (KeptOut.of_at g3 HAT.out.2.2.1))
  have P3 := Lib.hid o3
  have O3 := Lib.hid (own_apart O2.out HD2.out g3)
  have F3 := Lib.hid (own_apart F2.out HF1.out g3)
  have G3 := Lib.hid (own_apart G2.out (Apart.symm HP1.out) g3)
  have R3 := Lib.hid (own_apart R2.out (Apart.symm HP2.out) g3)
  have B3 := Lib.hid (HB.out.out K3.out (.inr hhi))
  clear g3 o3 b3
  have b4 := B3.out.c4
  simp only at b4
  go_wp2_with (go_at_call 32; refine (fun h : Hid _ => h.out) ?_)
  unfold Hid
  refine (laws_markIntS A3 n3 c3 _ base _ w3 G3.out ng (by omega) (by omega)).mono ?_
  rintro e w4 ⟨rfl, o4, g4⟩
  have K4 := Lib.hid (KeptOut.trans K3.out (KeptOut.of_at g4 HAT.out.2.2.2.1))
  have G4 := Lib.hid o4
  have O4 := Lib.hid (own_apart O3.out HD3.out g4)
  have F4 := Lib.hid (own_apart F3.out HF2.out g4)
  have P4 := Lib.hid (own_apart P3.out HP1.out g4)
  have R4 := Lib.hid (own_apart R3.out (Apart.symm HG1.out) g4)
  have B4 := Lib.hid (HB.out.out K4.out (.inr hhi))
  clear g4 o4 b4
  have b6 := B4.out.c6
  simp only at b6
  go_wp2_with (go_at_call 33; refine (fun h : Hid _ => h.out) ?_)
  unfold Hid
  refine (laws_markEntryS A4 n4 c4 _ base _ w4 R4.out nr (by omega) (by omega)).mono ?_
  rintro e w5 ⟨rfl, o5, g5⟩
  have K5 := Lib.hid (KeptOut.trans K4.out (KeptOut.of_at g5 HAT.out.2.2.2.2))
  have R5 := Lib.hid o5
  have O5 := Lib.hid (own_apart O4.out HD4.out g5)
  have F5 := Lib.hid (own_apart F4.out HF3.out g5)
  have P5 := Lib.hid (own_apart P4.out HP2.out g5)
  have G5 := Lib.hid (own_apart G4.out HG1.out g5)
  clear g5 o5 b6
  go_wp2_with fail
  go_ret
  exact ⟨rfl, ⟨HeH.out, Hed.out, O5.out, F5.out, P5.out, G5.out, R5.out, HAP.out⟩, HK0.out.trans K5.out⟩
end Go.Proofs.YtkelmeemblmggaaDoor
/- The walk of the law on NextDays; no condition. -/
namespace Go.Proofs.YtkelmeemblmggaaDoor
set_option linter.unusedSimpArgs false
set_option linter.unusedVariables false
open Go.RowKit Go.Sort
theorem bulk_bdN {v : MV} {m : GMuseum} (h : bulkM v m ≤ 1048576) : v.sd.n ≤ 1048576 ∧ v.sf.n ≤ 1048576 ∧ v.sp.n ≤ 1048576 ∧ v.sg.n ≤ 1048576 ∧ v.sr.n ≤ 1048576 := by
  have := bulkE_nn m.rs
  unfold bulkM at h
  omega
theorem MRd.lens {w : World} {v : MV} {m : GMuseum} (h : MRd w v m) : m.ds.length = v.sd.n ∧ m.fs.length = v.sf.n ∧ m.ps.length = v.sp.n ∧ m.gs.length = v.sg.n ∧ m.rs.length = v.sr.n :=
  ⟨h.rd.len GDoor.len (by omega), h.rf.len ienc_len (by omega), h.rp.len ienc_len (by omega), h.rg.len ienc_len (by omega), h.rr.len GEntry.len (by omega)⟩
theorem markEnd_nn {v : MV} : ¬ markEnd 1 v < 0 := by unfold markEnd mk4 mk3 mk2 mk1; omega
theorem daysM_lens (m : GMuseum) (d : Int) : (daysM m d).ds.length = m.ds.length ∧ (daysM m d).fs.length = m.fs.length ∧ (daysM m d).ps.length = m.ps.length ∧ (daysM m d).gs.length = m.gs.length ∧ (daysM m d).rs.length = m.rs.length := by
  unfold daysM
  split <;> exact ⟨rfl, rfl, rfl, rfl, rfl⟩
theorem days_fit {w : World} {base : Nat} {v v' : MV} {m : GMuseum} {d : Int} (h : MOwn w base v (daysM m d)) {w' : World} (hx : MRd w' v' m) (hd : v'.sd.n ≤ 1048576) (hf : v'.sf.n ≤ 1048576) (hp : v'.sp.n ≤ 1048576) (hg : v'.sg.n ≤ 1048576) (hr : v'.sr.n ≤ 1048576) : MFit v := by
  obtain ⟨a1, a2, a3, a4, a5⟩ := h.rd.lens
  obtain ⟨b1, b2, b3, b4, b5⟩ := hx.lens
  obtain ⟨c1, c2, c3, c4, c5⟩ := daysM_lens m d
  exact MFit.of_own h (by omega) (by omega) (by omega) (by omega) (by omega)
end Go.Proofs.YtkelmeemblmggaaDoor
/- Contracts of CanMove and l35Near; no condition but what stands at each theorem. -/
namespace Go.Proofs.YtkelmeemblmggaaDoor
set_option linter.unusedSimpArgs false
set_option linter.unusedVariables false
open Go.RowKit Go.Sort
def canMoveB (H : Int) (ds : List GDoor) (ps gs : List Int) (m : GMove) : Bool :=
  placesB H ds ps && (decide (gs.length ≤ 6) && (hallsB H ds gs && (goB H ds ps m && (inB m.f 0 ((gs.length : Int) - 1) && (inB m.s 0 ((gs.length : Int) - 1) && ((m.f != m.s) && (nearB gs ps m m.f && nearB gs ps m m.s)))))))
theorem doorB_self {H : Int} {ds : List GDoor} (hB : houseB H ds = true) (x : Int) : doorB ds x x = false := by
  unfold doorB
  rw [Bool.eq_false_iff]
  intro hc
  rw [List.any_eq_true] at hc
  obtain ⟨d, hd, he⟩ := hc
  have h1 := (houseB_spec hB).2.2.2.2.1 d hd
  simp only [isDoor, imin, imax, Bool.and_eq_true, beq_iff_eq] at he
  simp only [doorOk, Bool.and_eq_true, decide_eq_true_eq] at h1
  have h2 := he.1
  have h3 := he.2
  simp at h2 h3
  omega
theorem hallsB_house {H : Int} {ds : List GDoor} {xs : List Int} (h : hallsB H ds xs = true) : houseB H ds = true := by
  unfold hallsB at h; rw [Bool.and_eq_true] at h; exact h.2
theorem boxHPGM (w : World) (a0 a1 p g b0 b1 b2 b3 : Value) (t1 t2 t3 t4 : TypeId) (wb : World) (hwb : wb = (((w.alloc (.cells #[a0, a1] t1)).alloc (.cells #[p] t2)).alloc (.cells #[g] t3)).alloc (.cells #[b0, b1, b2, b3] t4)) :
    Ext w wb ∧ wb.heap.size = w.heap.size + 1 + 1 + 1 + 1 ∧ wb.cell? ⟨w.heap.size, 0, none⟩ = some a0 ∧ wb.cell? ⟨w.heap.size, 1, none⟩ = some a1 ∧ wb.cell? ⟨w.heap.size + 1, 0, none⟩ = some p ∧ wb.cell? ⟨w.heap.size + 1 + 1, 0, none⟩ = some g ∧ wb.cell? ⟨w.heap.size + 1 + 1 + 1, 0, none⟩ = some b0 ∧ wb.cell? ⟨w.heap.size + 1 + 1 + 1, 1, none⟩ = some b1 ∧ wb.cell? ⟨w.heap.size + 1 + 1 + 1, 2, none⟩ = some b2 ∧ wb.cell? ⟨w.heap.size + 1 + 1 + 1, 3, none⟩ = some b3 := by
  subst hwb
  have h1 : w.heap.size + 1 = (w.alloc (.cells #[a0, a1] t1)).heap.size := by simp
  have h2 : w.heap.size + 1 + 1 = ((w.alloc (.cells #[a0, a1] t1)).alloc (.cells #[p] t2)).heap.size := by simp
  have h3 : w.heap.size + 1 + 1 + 1 = (((w.alloc (.cells #[a0, a1] t1)).alloc (.cells #[p] t2)).alloc (.cells #[g] t3)).heap.size := by simp
  refine ⟨((((Ext.refl w).alloc _).alloc _).alloc _).alloc _, by simp, ?_, ?_, ?_, ?_, ?_, ?_, ?_, ?_⟩
  · rw [World.cell?_alloc_lt _ _ _ (by first | (simp; done) | (simp; omega)), World.cell?_alloc_lt _ _ _ (by first | (simp; done) | (simp; omega)), World.cell?_alloc_lt _ _ _ (by first | (simp; done) | (simp; omega)), World.cell?_alloc_new]; rfl
  · rw [World.cell?_alloc_lt _ _ _ (by first | (simp; done) | (simp; omega)), World.cell?_alloc_lt _ _ _ (by first | (simp; done) | (simp; omega)), World.cell?_alloc_lt _ _ _ (by first | (simp; done) | (simp; omega)), World.cell?_alloc_new]; rfl
  · rw [World.cell?_alloc_lt _ _ _ (by first | (simp; done) | (simp; omega)), World.cell?_alloc_lt _ _ _ (by simp), h1, World.cell?_alloc_new]; rfl
  · rw [World.cell?_alloc_lt _ _ _ (by simp), h2, World.cell?_alloc_new]; rfl
  all_goals rw [h3, World.cell?_alloc_new]; rfl
end Go.Proofs.YtkelmeemblmggaaDoor
