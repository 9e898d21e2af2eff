/- Contract of the reference's copy of a museum; no condition but what stands at each theorem. -/
import Derived.Test.YtkelmeemblmggaaSN1
import Derived.Test.YtkelmeemblmggaaKI
namespace Go.Proofs.Ytkelmeemblmggaa
set_option linter.unusedSimpArgs false
set_option linter.unusedVariables false
open Go.RowKit Go.Sort
theorem ei_DoorN : EI Try.prog 22 56 2 := ei_of Try.underlying22 (by omega) (by kernel_rfl)
/-- The cells of a museum's box, told again. -/
def MCell (w : World) (b : Nat) (v : MV) : Prop := w.cell? ⟨b, 0, none⟩ = some (.int .i64 v.H) ∧ w.cell? ⟨b, 1, none⟩ = some (.slice v.sd.A v.sd.n v.sd.c) ∧ w.cell? ⟨b, 2, none⟩ = some (.slice v.sf.A v.sf.n v.sf.c) ∧ w.cell? ⟨b, 3, none⟩ = some (.slice v.sp.A v.sp.n v.sp.c) ∧ w.cell? ⟨b, 4, none⟩ = some (.slice v.sg.A v.sg.n v.sg.c) ∧ w.cell? ⟨b, 5, none⟩ = some (.int .i64 v.d) ∧ w.cell? ⟨b, 6, none⟩ = some (.slice v.sr.A v.sr.n v.sr.c)
theorem MBox.cell {w : World} {b : Nat} {v : MV} (h : MBox w b v) : MCell w b v := ⟨h.c0, h.c1, h.c2, h.c3, h.c4, h.c5, h.c6⟩
theorem heap_size_allocN (w : World) (o : Obj) : (w.alloc o).heap.size = w.heap.size + 1 := by simp
set_option maxRecDepth 100000 in
set_option maxHeartbeats 4000000 in
theorem spec_l38Copy (v : MV) (m : GMuseum) (w : World) (hx : MRd w v m) (hf : MFit v) : Calls Try.prog 33 #[v.val] w (CopyPost m w) := by
  obtain ⟨wb, hwb⟩ : ∃ wb, wb = w.alloc (.cells v.cells 28) := ⟨_, rfl⟩
  have hbx := MBox.new hwb
  have hE : Ext w wb := by rw [hwb]; exact (Ext.refl w).alloc _
  obtain ⟨wz, hwz⟩ : ∃ wz, wz = wb.alloc (.cells #[.int .i64 0, .slice none 0 0, .slice none 0 0, .slice none 0 0, .slice none 0 0, .int .i64 0, .slice none 0 0] 28) := ⟨_, rfl⟩
  have hEz : Ext wb wz := by rw [hwz]; exact (Ext.refl wb).alloc _
  have hsb : wb.heap.size = w.heap.size + 1 := by rw [hwb]; simp
  have hsz : wz.heap.size = w.heap.size + 1 + 1 := by rw [hwz]; simp [hsb]
  have HBz : Hid (Blk wz (w.heap.size + 1) 28 #[.int .i64 0, .slice none 0 0, .slice none 0 0, .slice none 0 0, .slice none 0 0, .int .i64 0, .slice none 0 0]) := Lib.hid (by rw [hwz, ← hsb]; exact Blk.new _ _ _)
  have HX := Lib.hid (hx.keep (hE.trans hEz))
  have HB := Lib.hid (hbx.keep hEz)
  have HE := Lib.hid (hE.trans hEz)
  have HF := Lib.hid hf
  have HeH := Lib.hid hx.eH
  have Hed := Lib.hid hx.ed
  obtain ⟨Hh, ⟨A0, n0, c0⟩, ⟨A1, n1, c1⟩, ⟨A2, n2, c2⟩, ⟨A3, n3, c3⟩, day, ⟨A4, n4, c4⟩⟩ := v
  have Hwz : Hid (wz = (w.alloc (.cells #[.int .i64 Hh, .slice A0 n0 c0, .slice A1 n1 c1, .slice A2 n2 c2, .slice A3 n3 c3, .int .i64 day, .slice A4 n4 c4] 28)).alloc (.cells #[.int .i64 0, .slice none 0 0, .slice none 0 0, .slice none 0 0, .slice none 0 0, .int .i64 0, .slice none 0 0] 28)) := Lib.hid (by rw [hwz, hwb]; rfl)
  have nd : n0 ≤ 1048576 := hf.nd
  have nf : n1 ≤ 1048576 := hf.nf
  have np : n2 ≤ 1048576 := hf.np
  have ng : n3 ≤ 1048576 := hf.ng
  have nr : n4 ≤ 1048576 := hf.nr
  have hzl : w.heap.size + 1 < wz.heap.size := by omega
  clear hwb hwz hbx hE hEz hx hf hsb hsz
  show Calls Try.prog 33 #[.agg #[.int .i64 Hh, .slice A0 n0 c0, .slice A1 n1 c1, .slice A2 n2 c2, .slice A3 n3 c3, .int .i64 day, .slice A4 n4 c4]] w _
  obtain ⟨b0, b1, b2, b3, b4, b5, b6⟩ := HB.out.cell
  simp only at b0 b1 b2 b3 b4 b5 b6
  go_enter Try.func33, Try.ntmps33
  go_wp2_with fail
  rw [← Hwz.out]
  have HOe := Lib.hid (own_keep (own_empty wz wz.heap.size 56 2 (Nat.le_refl _)) (Ext.refl _).drew)
  have m1 : w.heap.size ≠ w.heap.size + 1 := by omega
  have m2 : w.heap.size + 1 ≠ w.heap.size := by omega
  have cF := Lib.hid (fun W (he : Ext wz W) => spec_l35CopyN A1 n1 c1 m.fs W (HX.out.rf.keep he) (Lib.hid HF.out.zf) nf)
  have cP := Lib.hid (fun W (he : Ext wz W) => spec_l35CopyN A2 n2 c2 m.ps W (HX.out.rp.keep he) (Lib.hid HF.out.zp) np)
  have cG := Lib.hid (fun W (he : Ext wz W) => spec_l35CopyN A3 n3 c3 m.gs W (HX.out.rg.keep he) (Lib.hid HF.out.zg) ng)
  have cR := Lib.hid (fun W (he : Ext wz W) => spec_l30Copy A4 n4 c4 m.rs W (HX.out.rr.keep he) (Lib.hid HF.out.zr) nr)
  go_region_held3 (fun w' => w'.cell? ⟨w.heap.size, 0, none⟩ = some (.int .i64 Hh) ∧ w'.cell? ⟨w.heap.size, 1, none⟩ = some (.slice A0 n0 c0) ∧ w'.cell? ⟨w.heap.size, 2, none⟩ = some (.slice A1 n1 c1) ∧ w'.cell? ⟨w.heap.size, 3, none⟩ = some (.slice A2 n2 c2) ∧ w'.cell? ⟨w.heap.size, 4, none⟩ = some (.slice A3 n3 c3) ∧ w'.cell? ⟨w.heap.size, 5, none⟩ = some (.int .i64 day) ∧ w'.cell? ⟨w.heap.size, 6, none⟩ = some (.slice A4 n4 c4)) (first | (refine ⟨?_, ?_, ?_, ?_, ?_, ?_, ?_⟩ <;> simp only [cell_set_far, m2, ne_eq, not_false_eq_true] <;> assumption) | go_keep) (first
    | (refine step_appAt ei_DoorN (by rfl) _ _ (by rfl) wz.heap.size (wz.alloc (.cells #[] 56)).drew (.slice (some ⟨wz.heap.size, 0, none⟩) 0 0) 0 [] (by rfl) HOe.out A0 n0 c0 (m.ds.flatMap GDoor.enc) (by rfl) ((HX.out.rd.alloc _).drew) HF.out.zd (one_GDoorN _) (by omega) (by show wz.heap.size ≤ (wz.alloc _).heap.size; rw [heap_size_allocN]; omega) ?_; intro v1 w1 ho1 hg1 hv1; have he1 : Ext wz w1 := Ext.grown ((Ext.refl wz).alloc _).drew hg1 (fun q hq => (HOe.out.lt q hq).1); rw [Nat.zero_add, List.nil_append] at ho1; obtain ⟨Ad, kd, hvd, hkd⟩ := own_form ho1; subst hvd; obtain ⟨y0, y1, y2, y3, y4, y5, y6⟩ := (HB.out.keep he1).cell; simp only at y0 y1 y2 y3 y4 y5 y6; have q1 : w.heap.size < w1.heap.size := (by have := he1.size; omega); have q2 : w.heap.size + 1 < w1.heap.size := (by have := he1.size; omega))
    | (go_at_call 50; (with_reducible show Calls _ _ #[.slice A1 n1 c1] _ _); refine (cF.out _ he1).mono ?_; rintro e w2 ⟨g2, k2, rfl, h2, o2⟩; have he2 : Ext wz w2 := he1.trans h2; obtain ⟨y0, y1, y2, y3, y4, y5, y6⟩ := (HB.out.keep he2).cell; simp only at y0 y1 y2 y3 y4 y5 y6; have q1 : w.heap.size < w2.heap.size := (by have := he2.size; omega); have q2 : w.heap.size + 1 < w2.heap.size := (by have := he2.size; omega))
    | (go_at_call 50; (with_reducible show Calls _ _ #[.slice A2 n2 c2] _ _); refine (cP.out _ he2).mono ?_; rintro e w3 ⟨g3, k3, rfl, h3, o3⟩; have he3 : Ext wz w3 := he2.trans h3; obtain ⟨y0, y1, y2, y3, y4, y5, y6⟩ := (HB.out.keep he3).cell; simp only at y0 y1 y2 y3 y4 y5 y6; have q1 : w.heap.size < w3.heap.size := (by have := he3.size; omega); have q2 : w.heap.size + 1 < w3.heap.size := (by have := he3.size; omega))
    | (go_at_call 50; (with_reducible show Calls _ _ #[.slice A3 n3 c3] _ _); refine (cG.out _ he3).mono ?_; rintro e w4 ⟨g4, k4, rfl, h4, o4⟩; have he4 : Ext wz w4 := he3.trans h4; obtain ⟨y0, y1, y2, y3, y4, y5, y6⟩ := (HB.out.keep he4).cell; simp only at y0 y1 y2 y3 y4 y5 y6; have q1 : w.heap.size < w4.heap.size := (by have := he4.size; omega); have q2 : w.heap.size + 1 < w4.heap.size := (by have := he4.size; omega))
    | (go_at_call 51; refine (cR.out _ he4).mono ?_; rintro e w5 ⟨g5, k5, rfl, h5, o5⟩; have he5 : Ext wz w5 := he4.trans h5; have Bz := Blk.keep HBz.out he5; have x0 := Bz.cellAt (i := 0) (by simp); have x1 := Bz.cellAt (i := 1) (by simp); have x2 := Bz.cellAt (i := 2) (by simp); have x3 := Bz.cellAt (i := 3) (by simp); have x4 := Bz.cellAt (i := 4) (by simp); have x5 := Bz.cellAt (i := 5) (by simp); have x6 := Bz.cellAt (i := 6) (by simp); have fz := Bz.free; simp at x0 x1 x2 x3 x4 x5 x6; obtain ⟨y0, y1, y2, y3, y4, y5, y6⟩ := (HB.out.keep he5).cell; simp only at y0 y1 y2 y3 y4 y5 y6; have q1 : w.heap.size < w5.heap.size := (by have := he5.size; omega); have q2 : w.heap.size + 1 < w5.heap.size := (by have := he5.size; omega)))
  have hE5 := HE.out.trans he5
  have hO5 : MOwn w5 wz.heap.size ⟨Hh, ⟨Ad, n0, kd⟩, ⟨some ⟨g2, 0, none⟩, n1, k2⟩, ⟨some ⟨g3, 0, none⟩, n2, k3⟩, ⟨some ⟨g4, 0, none⟩, n3, k4⟩, day, ⟨some ⟨g5, 0, none⟩, n4, k5⟩⟩ m := by
    have ad := At.of_own ho1
    have af := At.of_own o2
    have ap := At.of_own o3
    have ag := At.of_own o4
    have ar := At.of_own o5
    have z2 := h2.size
    have z3 := h3.size
    have z4 := h4.size
    have z5 := h5.size
    refine ⟨HeH.out, Hed.out, own_keep ho1 (h2.trans (h3.trans (h4.trans h5))), own_weak (own_keep o2 (h3.trans (h4.trans h5))) he1.size, own_weak (own_keep o3 (h4.trans h5)) he2.size, own_weak (own_keep o4 h5) he3.size, own_weak o5 he4.size, ?_⟩
    exact apart5 (Apart.of_at ad af (.inl (Nat.le_refl _))) (Apart.of_at ad ap (.inl z2)) (Apart.of_at ad ag (.inl (Nat.le_trans z2 z3))) (Apart.of_at ad ar (.inl (Nat.le_trans z2 (Nat.le_trans z3 z4))))
      (Apart.of_at af ap (.inl (Nat.le_refl _))) (Apart.of_at af ag (.inl z3)) (Apart.of_at af ar (.inl (Nat.le_trans z3 z4))) (Apart.of_at ap ag (.inl (Nat.le_refl _))) (Apart.of_at ap ar (.inl z4)) (Apart.of_at ag ar (.inl (Nat.le_refl _)))
  obtain ⟨b6', k6⟩ := store7 Bz (.int .i64 Hh) (.slice Ad n0 kd) (.slice (some ⟨g2, 0, none⟩) n1 k2) (.slice (some ⟨g3, 0, none⟩) n2 k3) (.slice (some ⟨g4, 0, none⟩) n3 k4) (.int .i64 day) (.slice (some ⟨g5, 0, none⟩) n4 k5)
  have hO6 := hO5.out k6 (by omega)
  have hE6 := k6.ext hE5 (by omega)
  generalize ((((((w5.setCell ⟨w.heap.size + 1, 0, none⟩ (.int .i64 Hh)).setCell ⟨w.heap.size + 1, 1, none⟩ (.slice Ad n0 kd)).setCell ⟨w.heap.size + 1, 2, none⟩ (.slice (some ⟨g2, 0, none⟩) n1 k2)).setCell ⟨w.heap.size + 1, 3, none⟩ (.slice (some ⟨g3, 0, none⟩) n2 k3)).setCell ⟨w.heap.size + 1, 4, none⟩ (.slice (some ⟨g4, 0, none⟩) n3 k4)).setCell ⟨w.heap.size + 1, 5, none⟩ (.int .i64 day)).setCell ⟨w.heap.size + 1, 6, none⟩ (.slice (some ⟨g5, 0, none⟩) n4 k5) = w6 at b6' k6 hO6 hE6 ⊢
  have HO6 := Lib.hid (hO6.weak (show w.heap.size ≤ wz.heap.size by omega))
  have HE6 := Lib.hid hE6
  have t0 := b6'.cellAt (i := 0) (by simp)
  have t1 := b6'.cellAt (i := 1) (by simp)
  have t2 := b6'.cellAt (i := 2) (by simp)
  have t3 := b6'.cellAt (i := 3) (by simp)
  have t4 := b6'.cellAt (i := 4) (by simp)
  have t5 := b6'.cellAt (i := 5) (by simp)
  have t6 := b6'.cellAt (i := 6) (by simp)
  simp at t0 t1 t2 t3 t4 t5 t6
  clear b6' k6 hO6 hE6 hO5 hE5 Bz x0 x1 x2 x3 x4 x5 x6 fz ho1 hg1 hv1 o2 o3 o4 o5 h2 h3 h4 h5 he1 he2 he3 he4 he5 y0 y1 y2 y3 y4 y5 y6
  go_wp2_with fail
  refine bodyPost_ret (v := MV.val ⟨Hh, ⟨Ad, n0, kd⟩, ⟨some ⟨g2, 0, none⟩, n1, k2⟩, ⟨some ⟨g3, 0, none⟩, n2, k3⟩, ⟨some ⟨g4, 0, none⟩, n3, k4⟩, day, ⟨some ⟨g5, 0, none⟩, n4, k5⟩⟩) (by simp [results, Try.results33, go_sem, t0, t1, t2, t3, t4, t5, t6, MV.val, MV.cells]) rfl ?_
  exact ⟨_, rfl, HE6.out, HO6.out⟩
end Go.Proofs.Ytkelmeemblmggaa
