/- Contracts of GuardWalk; no condition but what stands at each theorem. -/
import Derived.Test.YtkelmeemblmggaaMG
import Derived.Test.YtkelmeemblmggaaSN5
namespace Go.Proofs.Ytkelmeemblmggaa
set_option linter.unusedSimpArgs false
set_option linter.unusedVariables false
open Go.RowKit Go.Sort
theorem own_setG {w : World} {base n c g : Nat} {t : TypeId} {u : List Int} (h : w.ownsRow base t 1 (.slice (some ⟨g, 0, none⟩) n c) n (u.flatMap ienc)) (i : Nat) (x : Int) :
    (w.setCell ⟨g, i, none⟩ (.int .i64 x)).ownsRow base t 1 (.slice (some ⟨g, 0, none⟩) n c) n ((u.set i x).flatMap ienc) := by
  rcases own_block h with ⟨hA, _⟩ | ⟨g', cur, hA, hb, hblk, hnc, hcm, hcs, ht⟩
  · cases hA
  · injection hA with hA
    injection hA with hA
    subst hA
    refine ⟨?_, .inr ⟨g, c, _, rfl, hb, hblk.set i _, hnc, hcm, by simpa using hcs, ?_⟩⟩
    · have := h.1
      rw [ienc_map, List.length_map] at this ⊢
      simpa using this
    · rw [ienc_map] at ht ⊢
      rw [List.map_set, ← ht]
      simp [List.take_set]
/-- One guard of a museum in rows of the call's own is set. -/
theorem MOwn.gset {w : World} {base g : Nat} {v : MV} {m : GMuseum} (h : MOwn w base v m) (hA : v.sg.A = some ⟨g, 0, none⟩) (i : Nat) (x : Int) : MOwn (w.setCell ⟨g, i, none⟩ (.int .i64 x)) base v { m with gs := m.gs.set i x } := by
  have hg : w.grownBy (w.setCell ⟨g, i, none⟩ (.int .i64 x)) v.sg.v.ownBlock := by
    have : v.sg.v.ownBlock = some g := by rw [SL.v, hA]; rfl
    rw [this]
    exact grown_set (grown_refl _ _) i _
  obtain ⟨a1, a2, a3, a4, a5, a6, a7, a8, a9, a10⟩ := aparts h.ap
  refine ⟨h.eH, h.ed, own_apart h.od a3 hg, own_apart h.of_ a6 hg, own_apart h.op a8 hg, ?_, own_apart h.or_ a10.symm hg, h.ap⟩
  have ho := h.og
  unfold SL.v at ho ⊢
  rw [hA] at ho ⊢
  exact own_setG ho i x
set_option maxRecDepth 100000 in
set_option maxHeartbeats 4000000 in
theorem impl_GuardWalk (v : MV) (m : GMuseum) (g h : Int) (w : World) (hx : MRd w v m) (hf : MFit v) : Calls Try.prog 26 #[v.val, .int .i64 g, .int .i64 h] w (MPost (guardM m g h) (.bool (guardB m g h)) w) := by
  obtain ⟨wb, hwb⟩ : ∃ wb, wb = w.alloc (.cells v.cells 28) := ⟨_, rfl⟩
  have hbx := MBox.new hwb
  have hE : Ext w wb := by rw [hwb]; exact (Ext.refl w).alloc _
  obtain ⟨wz, hwz⟩ : ∃ wz, wz = wb.alloc (.cells #[.int .i64 0, .slice none 0 0, .slice none 0 0, .slice none 0 0, .slice none 0 0, .int .i64 0, .slice none 0 0] 28) := ⟨_, rfl⟩
  have hEz : Ext wb wz := by rw [hwz]; exact (Ext.refl wb).alloc _
  have hsb : wb.heap.size = w.heap.size + 1 := by rw [hwb]; simp
  have hsz : wz.heap.size = w.heap.size + 1 + 1 := by rw [hwz]; simp [hsb]
  have HBz : Hid (Blk wz (w.heap.size + 1) 28 #[.int .i64 0, .slice none 0 0, .slice none 0 0, .slice none 0 0, .slice none 0 0, .int .i64 0, .slice none 0 0]) := Lib.hid (by rw [hwz, ← hsb]; exact Blk.new _ _ _)
  have HX := Lib.hid (hx.keep (hE.trans hEz))
  have HB := Lib.hid (hbx.keep hEz)
  have HE := Lib.hid (hE.trans hEz)
  have cC := Lib.hid (impl_copyMuseum v m wz HX.out hf)
  have cM := Lib.hid (fun W (he : Ext wz W) => impl_MuseumOk v m W (HX.out.keep he))
  obtain ⟨Hh, ⟨A0, n0, c0⟩, ⟨A1, n1, c1⟩, ⟨A2, n2, c2⟩, ⟨A3, n3, c3⟩, day, ⟨A4, n4, c4⟩⟩ := v
  have HLg : Hid (m.gs.length = n3) := HX.out.rg.len ienc_len (by omega)
  have hH : Hh = m.H := hx.eH
  subst hH
  have Hwz : Hid (wz = (w.alloc (.cells #[.int .i64 m.H, .slice A0 n0 c0, .slice A1 n1 c1, .slice A2 n2 c2, .slice A3 n3 c3, .int .i64 day, .slice A4 n4 c4] 28)).alloc (.cells #[.int .i64 0, .slice none 0 0, .slice none 0 0, .slice none 0 0, .slice none 0 0, .int .i64 0, .slice none 0 0] 28)) := Lib.hid (by rw [hwz, hwb]; rfl)
  have hday : day = m.d := hx.ed
  subst hday
  have hzl : w.heap.size + 1 < wz.heap.size := by omega
  clear hwb hwz hbx hE hEz hx hf hsb hsz
  show Calls Try.prog 26 #[.agg #[.int .i64 m.H, .slice A0 n0 c0, .slice A1 n1 c1, .slice A2 n2 c2, .slice A3 n3 c3, .int .i64 m.d, .slice A4 n4 c4], .int .i64 g, .int .i64 h] w _
  obtain ⟨b0, b1, b2, b3, b4, b5, b6⟩ := HB.out.cell
  simp only at b0 b1 b2 b3 b4 b5 b6
  have Hb0 := Lib.hid b0
  rw [Hwz.out] at b0 b1 b2 b3 b4 b5 b6
  go_enter Try.func26, Try.ntmps26
  go_wp2_with (go_at_call 36; refine (fun h : Hid _ => h.out) ?_)
  unfold Hid
  rw [← Hwz.out]
  refine cC.out.mono ?_
  rintro e w1 ⟨v1, hev, he1, ho1⟩
  obtain ⟨Hh1, ⟨A01, n01, c01⟩, ⟨A11, n11, c11⟩, ⟨A21, n21, c21⟩, ⟨A31, n31, c31⟩, day1, ⟨A41, n41, c41⟩⟩ := v1
  simp only [MV.val, MV.cells] at hev
  subst hev
  have hd1 : day1 = m.d := ho1.ed
  subst hd1
  obtain ⟨w2, hw2⟩ : ∃ w2, w2 = w1.alloc (.cells #[.int .i64 Hh1, .slice A01 n01 c01, .slice A11 n11 c11, .slice A21 n21 c21, .slice A31 n31 c31, .int .i64 m.d, .slice A41 n41 c41] 28) := ⟨_, rfl⟩
  have hB6 : Blk w2 w1.heap.size 28 #[.int .i64 Hh1, .slice A01 n01 c01, .slice A11 n11 c11, .slice A21 n21 c21, .slice A31 n31 c31, .int .i64 m.d, .slice A41 n41 c41] := by rw [hw2]; exact Blk.new _ _ _
  have he2 : Ext w1 w2 := by rw [hw2]; exact (Ext.refl _).alloc _
  have HB6 := Lib.hid hB6
  have HAT1 := MAt.of_own ho1
  have HO2 := Lib.hid (ho1.keep he2)
  have HE2 := Lib.hid (he1.trans he2)
  have HW2 := Lib.hid hw2
  have hz2 : wz.heap.size ≤ w1.heap.size := he1.size
  have hs2 : w2.heap.size = w1.heap.size + 1 := by rw [hw2]; simp
  have CM : Hid (∀ W, Ext wz W → Calls Try.prog 37 #[.agg #[.int .i64 m.H, .slice A0 n0 c0, .slice A1 n1 c1, .slice A2 n2 c2, .slice A3 n3 c3, .int .i64 m.d, .slice A4 n4 c4]] W fun e w' => e = .returned (.bool (museumB m)) ∧ Ext W w') := cM
  have CD : Hid (∀ W x y, Ext wz W → Calls Try.prog 46 #[.agg #[.int .i64 m.H, .slice A0 n0 c0], .int .i64 x, .int .i64 y] W fun e w' => e = .returned (.bool (hasDoorB m.H m.ds x y)) ∧ Ext W w') := Lib.hid fun W x y he => impl_HasDoor m.H A0 n0 c0 m.ds x y W (HX.out.rd.keep he)
  clear hB6 he2 ho1 he1 hw2 b0 b1 b2 b3 b4 b5 b6 cC cM
  go_wp2_with fail
  rw [← HW2.out]
  obtain ⟨b0, b1, b2, b3, b4, b5, b6⟩ := (HB.out.keep HE2.out).cell
  simp only at b0 b1 b2 b3 b4 b5 b6
  have e0 := cell_regrown b0
  have e1 := cell_regrown b1
  have e2 := cell_regrown b2
  have e3 := cell_regrown b3
  have e4 := cell_regrown b4
  have e5 := cell_regrown b5
  have e6 := cell_regrown b6
  have HAT := Lib.hid HAT1
  have cM := CM.out
  cases hm : museumB m
  case false =>
    rw [hm] at cM
    have HF : Hid (guardB m g h = false) := Lib.hid (by simp [guardB, hm])
    have HM : Hid (guardM m g h = m) := Lib.hid (by rw [guardM, HF.out]; rfl)
    clear hm
    (refine wp_region_ext (by kernel_rfl) (by kernel_rfl) ?_; (repeat (go_big_quiet_step (first | (go_at_call 37; with_reducible exact Calls.rg (cM _ (HE2.out.trans (ext_rg _ _ _))))))); refine wpQuiet_nil ?_)
    intro w3 hb3
    have HE3 := Lib.hid (HE2.out.trans hb3)
    have HO3 := Lib.hid (HO2.out.keep hb3)
    have HB63 := Lib.hid (HB6.out.keep hb3)
    have hz3 : w2.heap.size ≤ w3.heap.size := hb3.size
    clear hb3 b0 b1 b2 b3 b4 b5 b6 e0 e1 e2 e3 e4 e5 e6
    have Bz := Blk.keep HBz.out HE3.out
    have x0 := Bz.cellAt (i := 0) (by simp)
    have x1 := Bz.cellAt (i := 1) (by simp)
    have x2 := Bz.cellAt (i := 2) (by simp)
    have x3 := Bz.cellAt (i := 3) (by simp)
    have x4 := Bz.cellAt (i := 4) (by simp)
    have x5 := Bz.cellAt (i := 5) (by simp)
    have x6 := Bz.cellAt (i := 6) (by simp)
    have fz := Bz.free
    simp at x0 x1 x2 x3 x4 x5 x6
    have y0 := HB63.out.cellAt (i := 0) (by simp)
    have y1 := HB63.out.cellAt (i := 1) (by simp)
    have y2 := HB63.out.cellAt (i := 2) (by simp)
    have y3 := HB63.out.cellAt (i := 3) (by simp)
    have y4 := HB63.out.cellAt (i := 4) (by simp)
    have y5 := HB63.out.cellAt (i := 5) (by simp)
    have y6 := HB63.out.cellAt (i := 6) (by simp)
    simp at y0 y1 y2 y3 y4 y5 y6
    have lz : w.heap.size + 1 < w3.heap.size := Bz.lt
    go_wp2_with fail
    obtain ⟨b6', k6⟩ := store7 Bz (.int .i64 Hh1) (.slice A01 n01 c01) (.slice A11 n11 c11) (.slice A21 n21 c21) (.slice A31 n31 c31) (.int .i64 m.d) (.slice A41 n41 c41)
    have hO6 := HO3.out.out k6 (by omega)
    have hE6 := k6.ext (HE.out.trans HE3.out) (by omega)
    generalize (((((((w3.setCell ⟨w.heap.size + 1, 0, none⟩ (.int .i64 Hh1)).setCell ⟨w.heap.size + 1, 1, none⟩ (.slice A01 n01 c01)).setCell ⟨w.heap.size + 1, 2, none⟩ (.slice A11 n11 c11)).setCell ⟨w.heap.size + 1, 3, none⟩ (.slice A21 n21 c21)).setCell ⟨w.heap.size + 1, 4, none⟩ (.slice A31 n31 c31)).setCell ⟨w.heap.size + 1, 5, none⟩ (.int .i64 m.d)).setCell ⟨w.heap.size + 1, 6, none⟩ (.slice A41 n41 c41)) = w9 at b6' k6 hO6 hE6 ⊢
    have t0 := b6'.cellAt (i := 0) (by simp)
    have t1 := b6'.cellAt (i := 1) (by simp)
    have t2 := b6'.cellAt (i := 2) (by simp)
    have t3 := b6'.cellAt (i := 3) (by simp)
    have t4 := b6'.cellAt (i := 4) (by simp)
    have t5 := b6'.cellAt (i := 5) (by simp)
    have t6 := b6'.cellAt (i := 6) (by simp)
    simp at t0 t1 t2 t3 t4 t5 t6
    refine bodyPost_ret (v := .tuple #[MV.val ⟨Hh1, ⟨A01, n01, c01⟩, ⟨A11, n11, c11⟩, ⟨A21, n21, c21⟩, ⟨A31, n31, c31⟩, m.d, ⟨A41, n41, c41⟩⟩, .bool false]) (by simp [results, Try.results26, go_sem, t0, t1, t2, t3, t4, t5, t6, MV.val, MV.cells]) rfl ?_
    exact ⟨_, (by rw [HF.out]), hE6, by rw [HM.out]; exact hO6.weak (by omega)⟩
  rw [hm] at cM
  have cB := fun W => impl_between g 0 ((m.gs.length : Int) - 1) W
  rw [HLg.out] at cB
  have hww : wrap64 ((n3 : Int) - 1) = (n3 : Int) - 1 := by have : n3 ≤ 9223372036854775807 := HX.out.rg.2.1; unfold wrap64; omega
  cases hi : inB g 0 ((n3 : Int) - 1)
  case false =>
    rw [hi] at cB
    have HF : Hid (guardB m g h = false) := Lib.hid (by rw [guardB, HLg.out, hi]; simp)
    have HM : Hid (guardM m g h = m) := Lib.hid (by rw [guardM, HF.out]; rfl)
    clear hm hi
    (refine wp_region_ext (by kernel_rfl) (by kernel_rfl) ?_; (repeat (go_big_quiet_step (first | (go_at_call 37; with_reducible exact Calls.rg (cM _ (HE2.out.trans (ext_rg _ _ _)))) | (go_at_call 44; with_reducible exact Calls.rg0 (cB _))))); refine wpQuiet_nil ?_)
    intro w3 hb3
    have HE3 := Lib.hid (HE2.out.trans hb3)
    have HO3 := Lib.hid (HO2.out.keep hb3)
    have HB63 := Lib.hid (HB6.out.keep hb3)
    have hz3 : w2.heap.size ≤ w3.heap.size := hb3.size
    clear hb3 b0 b1 b2 b3 b4 b5 b6 e0 e1 e2 e3 e4 e5 e6
    have Bz := Blk.keep HBz.out HE3.out
    have x0 := Bz.cellAt (i := 0) (by simp)
    have x1 := Bz.cellAt (i := 1) (by simp)
    have x2 := Bz.cellAt (i := 2) (by simp)
    have x3 := Bz.cellAt (i := 3) (by simp)
    have x4 := Bz.cellAt (i := 4) (by simp)
    have x5 := Bz.cellAt (i := 5) (by simp)
    have x6 := Bz.cellAt (i := 6) (by simp)
    have fz := Bz.free
    simp at x0 x1 x2 x3 x4 x5 x6
    have y0 := HB63.out.cellAt (i := 0) (by simp)
    have y1 := HB63.out.cellAt (i := 1) (by simp)
    have y2 := HB63.out.cellAt (i := 2) (by simp)
    have y3 := HB63.out.cellAt (i := 3) (by simp)
    have y4 := HB63.out.cellAt (i := 4) (by simp)
    have y5 := HB63.out.cellAt (i := 5) (by simp)
    have y6 := HB63.out.cellAt (i := 6) (by simp)
    simp at y0 y1 y2 y3 y4 y5 y6
    have lz : w.heap.size + 1 < w3.heap.size := Bz.lt
    go_wp2_with fail
    obtain ⟨b6', k6⟩ := store7 Bz (.int .i64 Hh1) (.slice A01 n01 c01) (.slice A11 n11 c11) (.slice A21 n21 c21) (.slice A31 n31 c31) (.int .i64 m.d) (.slice A41 n41 c41)
    have hO6 := HO3.out.out k6 (by omega)
    have hE6 := k6.ext (HE.out.trans HE3.out) (by omega)
    generalize (((((((w3.setCell ⟨w.heap.size + 1, 0, none⟩ (.int .i64 Hh1)).setCell ⟨w.heap.size + 1, 1, none⟩ (.slice A01 n01 c01)).setCell ⟨w.heap.size + 1, 2, none⟩ (.slice A11 n11 c11)).setCell ⟨w.heap.size + 1, 3, none⟩ (.slice A21 n21 c21)).setCell ⟨w.heap.size + 1, 4, none⟩ (.slice A31 n31 c31)).setCell ⟨w.heap.size + 1, 5, none⟩ (.int .i64 m.d)).setCell ⟨w.heap.size + 1, 6, none⟩ (.slice A41 n41 c41)) = w9 at b6' k6 hO6 hE6 ⊢
    have t0 := b6'.cellAt (i := 0) (by simp)
    have t1 := b6'.cellAt (i := 1) (by simp)
    have t2 := b6'.cellAt (i := 2) (by simp)
    have t3 := b6'.cellAt (i := 3) (by simp)
    have t4 := b6'.cellAt (i := 4) (by simp)
    have t5 := b6'.cellAt (i := 5) (by simp)
    have t6 := b6'.cellAt (i := 6) (by simp)
    simp at t0 t1 t2 t3 t4 t5 t6
    refine bodyPost_ret (v := .tuple #[MV.val ⟨Hh1, ⟨A01, n01, c01⟩, ⟨A11, n11, c11⟩, ⟨A21, n21, c21⟩, ⟨A31, n31, c31⟩, m.d, ⟨A41, n41, c41⟩⟩, .bool false]) (by simp [results, Try.results26, go_sem, t0, t1, t2, t3, t4, t5, t6, MV.val, MV.cells]) rfl ?_
    exact ⟨_, (by rw [HF.out]), hE6, by rw [HM.out]; exact hO6.weak (by omega)⟩
  rw [hi] at cB
  have hgi := guard_impl (h := h) hm (by rw [HLg.out]; exact hi)
  have hir : 0 ≤ g ∧ g ≤ (n3 : Int) - 1 := by simpa [inB] using hi
  obtain ⟨j, rfl⟩ := Int.eq_ofNat_of_zero_le hir.1
  have hj : j < n3 := by omega
  obtain ⟨bg, og, x, rfl, hbg, hxk, p0⟩ := ienc_at (HX.out.rg.keep HE2.out) hj
  have r0 := cell_regrown p0
  have hgo : guardOf m j = x := by unfold guardOf; simp only [Int.toNat_natCast]; exact by simp [hxk]
  rw [hgo] at hgi
  have cD := fun W => CD.out W x h
  cases hd : hasDoorB m.H m.ds x h
  case false =>
    rw [hd] at cD
    have HF : Hid (guardB m j h = false) := Lib.hid (hgi.trans hd)
    have HM : Hid (guardM m j h = m) := Lib.hid (by rw [guardM, HF.out]; rfl)
    clear hm hi hd hgi hgo hxk
    (refine wp_region_ext (by kernel_rfl) (by kernel_rfl) ?_; (repeat (go_big_quiet_step (first | (go_at_call 37; with_reducible exact Calls.rg (cM _ (HE2.out.trans (ext_rg _ _ _)))) | (go_at_call 44; with_reducible exact Calls.rg0 (cB _)) | (go_at_call 46; with_reducible exact Calls.rg (cD _ (HE2.out.trans (ext_rg _ _ _))))))); refine wpQuiet_nil ?_)
    intro w3 hb3
    have HE3 := Lib.hid (HE2.out.trans hb3)
    have HO3 := Lib.hid (HO2.out.keep hb3)
    have HB63 := Lib.hid (HB6.out.keep hb3)
    have hz3 : w2.heap.size ≤ w3.heap.size := hb3.size
    clear hb3 b0 b1 b2 b3 b4 b5 b6 e0 e1 e2 e3 e4 e5 e6
    clear p0 r0
    have Bz := Blk.keep HBz.out HE3.out
    have x0 := Bz.cellAt (i := 0) (by simp)
    have x1 := Bz.cellAt (i := 1) (by simp)
    have x2 := Bz.cellAt (i := 2) (by simp)
    have x3 := Bz.cellAt (i := 3) (by simp)
    have x4 := Bz.cellAt (i := 4) (by simp)
    have x5 := Bz.cellAt (i := 5) (by simp)
    have x6 := Bz.cellAt (i := 6) (by simp)
    have fz := Bz.free
    simp at x0 x1 x2 x3 x4 x5 x6
    have y0 := HB63.out.cellAt (i := 0) (by simp)
    have y1 := HB63.out.cellAt (i := 1) (by simp)
    have y2 := HB63.out.cellAt (i := 2) (by simp)
    have y3 := HB63.out.cellAt (i := 3) (by simp)
    have y4 := HB63.out.cellAt (i := 4) (by simp)
    have y5 := HB63.out.cellAt (i := 5) (by simp)
    have y6 := HB63.out.cellAt (i := 6) (by simp)
    simp at y0 y1 y2 y3 y4 y5 y6
    have lz : w.heap.size + 1 < w3.heap.size := Bz.lt
    go_wp2_with fail
    obtain ⟨b6', k6⟩ := store7 Bz (.int .i64 Hh1) (.slice A01 n01 c01) (.slice A11 n11 c11) (.slice A21 n21 c21) (.slice A31 n31 c31) (.int .i64 m.d) (.slice A41 n41 c41)
    have hO6 := HO3.out.out k6 (by omega)
    have hE6 := k6.ext (HE.out.trans HE3.out) (by omega)
    generalize (((((((w3.setCell ⟨w.heap.size + 1, 0, none⟩ (.int .i64 Hh1)).setCell ⟨w.heap.size + 1, 1, none⟩ (.slice A01 n01 c01)).setCell ⟨w.heap.size + 1, 2, none⟩ (.slice A11 n11 c11)).setCell ⟨w.heap.size + 1, 3, none⟩ (.slice A21 n21 c21)).setCell ⟨w.heap.size + 1, 4, none⟩ (.slice A31 n31 c31)).setCell ⟨w.heap.size + 1, 5, none⟩ (.int .i64 m.d)).setCell ⟨w.heap.size + 1, 6, none⟩ (.slice A41 n41 c41)) = w9 at b6' k6 hO6 hE6 ⊢
    have t0 := b6'.cellAt (i := 0) (by simp)
    have t1 := b6'.cellAt (i := 1) (by simp)
    have t2 := b6'.cellAt (i := 2) (by simp)
    have t3 := b6'.cellAt (i := 3) (by simp)
    have t4 := b6'.cellAt (i := 4) (by simp)
    have t5 := b6'.cellAt (i := 5) (by simp)
    have t6 := b6'.cellAt (i := 6) (by simp)
    simp at t0 t1 t2 t3 t4 t5 t6
    refine bodyPost_ret (v := .tuple #[MV.val ⟨Hh1, ⟨A01, n01, c01⟩, ⟨A11, n11, c11⟩, ⟨A21, n21, c21⟩, ⟨A31, n31, c31⟩, m.d, ⟨A41, n41, c41⟩⟩, .bool false]) (by simp [results, Try.results26, go_sem, t0, t1, t2, t3, t4, t5, t6, MV.val, MV.cells]) rfl ?_
    exact ⟨_, (by rw [HF.out]), hE6, by rw [HM.out]; exact hO6.weak (by omega)⟩
  case true =>
    rw [hd] at cD
    have HF : Hid (guardB m j h = true) := Lib.hid (hgi.trans hd)
    have HM : Hid (guardM m j h = { m with gs := m.gs.set j h }) := Lib.hid (by rw [guardM, HF.out]; rfl)
    clear hm hi hd hgi hgo hxk
    (refine wp_region_ext (by kernel_rfl) (by kernel_rfl) ?_; (repeat (go_big_quiet_step (first | (go_at_call 37; with_reducible exact Calls.rg (cM _ (HE2.out.trans (ext_rg _ _ _)))) | (go_at_call 44; with_reducible exact Calls.rg0 (cB _)) | (go_at_call 46; with_reducible exact Calls.rg (cD _ (HE2.out.trans (ext_rg _ _ _))))))); refine wpQuiet_nil ?_)
    intro w3 hb3
    have HE3 := Lib.hid (HE2.out.trans hb3)
    have HO3 := Lib.hid (HO2.out.keep hb3)
    have HB63 := Lib.hid (HB6.out.keep hb3)
    have hz3 : w2.heap.size ≤ w3.heap.size := hb3.size
    clear hb3 b0 b1 b2 b3 b4 b5 b6 e0 e1 e2 e3 e4 e5 e6
    clear p0 r0
    have hl31 := HO3.out.rd.rg.len ienc_len (by omega)
    simp only at hl31
    have hj31 : j < n31 := by (have := HLg.out; omega)
    obtain ⟨gb, hA, hbg, hblk⟩ := PBlk.of_own HO3.out.og (by show 1 ≤ n31; omega)
    simp only at hA
    subst hA
    have hat := HAT.out.2.2.2.1 gb (by rfl)
    have q0 := hblk.cell (i := j) (by omega)
    have q1 := hblk.free j
    have q2 := hblk.lt
    have y4 := HB63.out.cellAt (i := 4) (by simp)
    simp at y4
    clear hl31 hblk
    go_upto_region 5 with fail
    have hk := KeptOut.of_grown (lo := wz.heap.size) (hi := w1.heap.size) (grown_set (grown_refl w3 (some gb)) j (.int .i64 h)) (fun k hk => by injection hk with hk; omega)
    have hb7 : Blk (w3.setCell ⟨gb, j, none⟩ (.int .i64 h)) w1.heap.size _ _ := (hk.2 _ HB63.out.lt (.inr (Nat.le_refl _))).trans HB63.out
    have ho7 := MOwn.gset HO3.out rfl j h
    have he7 := hk.ext HE3.out (Nat.le_refl _)
    (try simp only at ho7)
    generalize w3.setCell ⟨gb, j, none⟩ (.int .i64 h) = w7 at hk hb7 ho7 he7 ⊢
    have HB7 := Lib.hid hb7
    have HO7 := Lib.hid ho7
    have HE7 := Lib.hid he7
    clear hk hb7 ho7 he7 y4 q0 q1 q2
    have Bz := Blk.keep HBz.out HE7.out
    have x0 := Bz.cellAt (i := 0) (by simp)
    have x1 := Bz.cellAt (i := 1) (by simp)
    have x2 := Bz.cellAt (i := 2) (by simp)
    have x3 := Bz.cellAt (i := 3) (by simp)
    have x4 := Bz.cellAt (i := 4) (by simp)
    have x5 := Bz.cellAt (i := 5) (by simp)
    have x6 := Bz.cellAt (i := 6) (by simp)
    have fz := Bz.free
    simp at x0 x1 x2 x3 x4 x5 x6
    have y0 := HB7.out.cellAt (i := 0) (by simp)
    have y1 := HB7.out.cellAt (i := 1) (by simp)
    have y2 := HB7.out.cellAt (i := 2) (by simp)
    have y3 := HB7.out.cellAt (i := 3) (by simp)
    have y4 := HB7.out.cellAt (i := 4) (by simp)
    have y5 := HB7.out.cellAt (i := 5) (by simp)
    have y6 := HB7.out.cellAt (i := 6) (by simp)
    simp at y0 y1 y2 y3 y4 y5 y6
    have lz : w.heap.size + 1 < w7.heap.size := Bz.lt
    go_wp2_with fail
    obtain ⟨b6', k6⟩ := store7 Bz (.int .i64 Hh1) (.slice A01 n01 c01) (.slice A11 n11 c11) (.slice A21 n21 c21) (.slice (some ⟨gb, 0, none⟩) n31 c31) (.int .i64 m.d) (.slice A41 n41 c41)
    have hO6 := HO7.out.out k6 (by omega)
    have hE6 := k6.ext (HE.out.trans HE7.out) (by omega)
    generalize (((((((w7.setCell ⟨w.heap.size + 1, 0, none⟩ (.int .i64 Hh1)).setCell ⟨w.heap.size + 1, 1, none⟩ (.slice A01 n01 c01)).setCell ⟨w.heap.size + 1, 2, none⟩ (.slice A11 n11 c11)).setCell ⟨w.heap.size + 1, 3, none⟩ (.slice A21 n21 c21)).setCell ⟨w.heap.size + 1, 4, none⟩ (.slice (some ⟨gb, 0, none⟩) n31 c31)).setCell ⟨w.heap.size + 1, 5, none⟩ (.int .i64 m.d)).setCell ⟨w.heap.size + 1, 6, none⟩ (.slice A41 n41 c41)) = w9 at b6' k6 hO6 hE6 ⊢
    have t0 := b6'.cellAt (i := 0) (by simp)
    have t1 := b6'.cellAt (i := 1) (by simp)
    have t2 := b6'.cellAt (i := 2) (by simp)
    have t3 := b6'.cellAt (i := 3) (by simp)
    have t4 := b6'.cellAt (i := 4) (by simp)
    have t5 := b6'.cellAt (i := 5) (by simp)
    have t6 := b6'.cellAt (i := 6) (by simp)
    simp at t0 t1 t2 t3 t4 t5 t6
    refine bodyPost_ret (v := .tuple #[MV.val ⟨Hh1, ⟨A01, n01, c01⟩, ⟨A11, n11, c11⟩, ⟨A21, n21, c21⟩, ⟨some ⟨gb, 0, none⟩, n31, c31⟩, m.d, ⟨A41, n41, c41⟩⟩, .bool true]) (by simp [results, Try.results26, go_sem, t0, t1, t2, t3, t4, t5, t6, MV.val, MV.cells]) rfl ?_
    exact ⟨_, (by rw [HF.out]), hE6, by rw [HM.out]; exact hO6.weak (by omega)⟩
end Go.Proofs.Ytkelmeemblmggaa
