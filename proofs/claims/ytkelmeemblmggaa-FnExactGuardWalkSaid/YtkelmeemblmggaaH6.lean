/- Contracts of the laws' copies of museums; no condition but what stands at each theorem. -/
import Derived.Test.YtkelmeemblmggaaH5
namespace Go.Proofs.Ytkelmeemblmggaa
set_option linter.unusedSimpArgs false
set_option linter.unusedVariables false
open Go.RowKit Go.Sort
set_option maxRecDepth 100000 in
set_option maxHeartbeats 4000000 in
theorem laws_toMuseum (v : MV) (m : GMuseum) (w : World) (hx : MRd w v m) (hd : v.sd.n ≤ 1048576) (hf : v.sf.n ≤ 1048576) (hp : v.sp.n ≤ 1048576) (hg : v.sg.n ≤ 1048576) (hr : v.sr.n ≤ 1048576) :
    Calls Try.prog 23 #[v.val] w fun e w' => ∃ gd gf gp gg gr : Nat, e = .returned (MV.val ⟨v.H, ⟨some ⟨gd, 0, none⟩, v.sd.n, v.sd.n⟩, ⟨some ⟨gf, 0, none⟩, v.sf.n, v.sf.n⟩, ⟨some ⟨gp, 0, none⟩, v.sp.n, v.sp.n⟩, ⟨some ⟨gg, 0, none⟩, v.sg.n, v.sg.n⟩, v.d, ⟨some ⟨gr, 0, none⟩, v.sr.n, v.sr.n⟩⟩) ∧ Ext w w' ∧
      MOwn w' w.heap.size ⟨v.H, ⟨some ⟨gd, 0, none⟩, v.sd.n, v.sd.n⟩, ⟨some ⟨gf, 0, none⟩, v.sf.n, v.sf.n⟩, ⟨some ⟨gp, 0, none⟩, v.sp.n, v.sp.n⟩, ⟨some ⟨gg, 0, none⟩, v.sg.n, v.sg.n⟩, v.d, ⟨some ⟨gr, 0, none⟩, v.sr.n, v.sr.n⟩⟩ m := by
  obtain ⟨wb, hwb⟩ : ∃ wb, wb = w.alloc (.cells v.cells 48) := ⟨_, rfl⟩
  have hbx := MBox.new hwb
  have hE : Ext w wb := by rw [hwb]; exact (Ext.refl w).alloc _
  have hsb : wb.heap.size = w.heap.size + 1 := by rw [hwb]; simp
  have HX := Lib.hid (hx.keep hE)
  have HeH := Lib.hid hx.eH
  have Hed := Lib.hid hx.ed
  obtain ⟨Hh, ⟨A0, n0, c0⟩, ⟨A1, n1, c1⟩, ⟨A2, n2, c2⟩, ⟨A3, n3, c3⟩, day, ⟨A4, n4, c4⟩⟩ := v
  simp only at hd hf hp hg hr
  obtain ⟨wz, hwz⟩ : ∃ wz, wz = wb.alloc (.cells #[.int .i64 0, .slice none 0 0, .slice none 0 0, .slice none 0 0, .slice none 0 0, .int .i64 0, .slice none 0 0] 28) := ⟨_, rfl⟩
  obtain ⟨w0, hw0⟩ : ∃ w0, w0 = wz.alloc (.cells #[.int .i64 0, .slice none 0 0, .slice none 0 0, .slice none 0 0, .slice none 0 0, .int .i64 0, .slice none 0 0] 28) := ⟨_, rfl⟩
  have hsz : wz.heap.size = w.heap.size + 1 + 1 := by rw [hwz]; simp [hsb]
  have hs0 : w0.heap.size = w.heap.size + 1 + 1 + 1 := by rw [hw0]; simp [hsz]
  have B1 : Blk w0 (w.heap.size + 1) 28 #[.int .i64 0, .slice none 0 0, .slice none 0 0, .slice none 0 0, .slice none 0 0, .int .i64 0, .slice none 0 0] := by
    rw [hw0, hwz, ← hsb]; exact (Blk.new _ _ _).keep ((Ext.refl _).alloc _)
  have B2 : Blk w0 (w.heap.size + 1 + 1) 28 #[.int .i64 0, .slice none 0 0, .slice none 0 0, .slice none 0 0, .slice none 0 0, .int .i64 0, .slice none 0 0] := by
    rw [hw0, ← hsz]; exact Blk.new _ _ _
  have e0 : Ext wb w0 := by rw [hw0, hwz]; exact ((Ext.refl wb).alloc _).alloc _
  have HE := Lib.hid hE
  have Hwb : Hid (wb = w.alloc (.cells #[.int .i64 Hh, .slice A0 n0 c0, .slice A1 n1 c1, .slice A2 n2 c2, .slice A3 n3 c3, .int .i64 day, .slice A4 n4 c4] 48)) := hwb
  have Hwz := Lib.hid hwz
  have Hw0 := Lib.hid hw0
  have HB := Lib.hid hbx
  have Hsb := Lib.hid hsb
  have HB1 := Lib.hid B1
  have HB2 := Lib.hid B2
  have hbl := hbx.lt
  have z0 : w.heap.size + 1 + 1 + 1 ≤ w0.heap.size := by omega
  have hsl : wb.heap.size ≤ w.heap.size + 1 := by omega
  clear hE hwb hwz hw0 hbx hsb hsz hs0 hx B1 B2
  show Calls Try.prog 23 #[.agg #[.int .i64 Hh, .slice A0 n0 c0, .slice A1 n1 c1, .slice A2 n2 c2, .slice A3 n3 c3, .int .i64 day, .slice A4 n4 c4]] w _
  have hm : ∀ i, (w.heap.size + 1 + 1 = w.heap.size + i) → i = 2 := by intro i h; omega
  clear hm
  have b0 := (e0.cellAt w.heap.size hbl 0).trans HB.out.c0
  have b1 := (e0.cellAt w.heap.size hbl 1).trans HB.out.c1
  simp only at b0 b1
  go_enter Try.func23, Try.ntmps23
  go_wp2_with fail
  rw [← Hwb.out, ← Hwz.out, ← Hw0.out]
  refine (laws_toHouse Hh A0 n0 c0 m.ds _ (HX.out.rd.keep e0) hd).mono ?_
  rintro e w1 ⟨gd, rfl, d1, od⟩
  have e1 : Ext wb w1 := Ext.trans (by (repeat (first | exact Ext.refl _ | assumption | refine Ext.alloc ?_ _ | refine Ext.drew ?_ | refine Ext.drewN ?_ _ | refine Ext.setCell ?_ (by first | (simp; done) | (simp; omega)) _ | refine Ext.trans ?_ (by assumption)))) d1
  have z1 : w0.heap.size ≤ w1.heap.size := by have := d1.size; simpa using this
  have B2 : Blk w1 (w.heap.size + 1 + 1) 28 #[.int .i64 0, .slice none 0 0, .slice none 0 0, .slice none 0 0, .slice none 0 0, .int .i64 0, .slice none 0 0] := Blk.keep HB2.out d1
  have B1 : Blk w1 (w.heap.size + 1) 28 #[.int .i64 0, .slice none 0 0, .slice none 0 0, .slice none 0 0, .slice none 0 0, .int .i64 0, .slice none 0 0] := Blk.keep HB1.out d1
  have at_d := At.of_own od
  replace at_d := at_d.mono (lo' := w0.heap.size) (by first | exact Nat.le_refl _ | (simp; done)) (Nat.le_refl _)
  replace od := own_weak (base' := w0.heap.size) od (by first | exact Nat.le_refl _ | (simp; done))
  clear d1 HB1 HB2 e0
  have HB1 := Lib.hid B1
  have HB2 := Lib.hid B2
  (try clear b0); (try clear b1); (try clear b2); (try clear b3); (try clear b4); (try clear b5); (try clear b6)
  have b2 := (e1.cellAt w.heap.size hbl 2).trans HB.out.c2
  simp only at b2
  have s0 : w1.cell? ⟨w.heap.size + 1 + 1, 0, none⟩ = some (.int .i64 0) := B2.cell 0
  have f0 := B2.free 0
  have s1 : w1.cell? ⟨w.heap.size + 1 + 1, 1, none⟩ = some (.slice none 0 0) := B2.cell 1
  have f1 := B2.free 1
  clear B1 B2
  have l1 : w.heap.size + 1 < w1.heap.size := by omega
  have l2 : w.heap.size + 1 + 1 < w1.heap.size := by omega
  go_wp2_with fail
  (try clear s0 f0)
  (try clear s1 f1)
  clear l1 l2
  refine (laws_toIntS A1 n1 c1 _ _ (HX.out.rf.keep (by (repeat (first | exact Ext.refl _ | assumption | refine Ext.alloc ?_ _ | refine Ext.drew ?_ | refine Ext.drewN ?_ _ | refine Ext.setCell ?_ (by first | (simp; done) | (simp; omega)) _ | refine Ext.trans ?_ (by assumption))))) hf).mono ?_
  rintro e w2 ⟨gf, rfl, d2, of⟩
  have e2 : Ext wb w2 := Ext.trans (by (repeat (first | exact Ext.refl _ | assumption | refine Ext.alloc ?_ _ | refine Ext.drew ?_ | refine Ext.drewN ?_ _ | refine Ext.setCell ?_ (by first | (simp; done) | (simp; omega)) _ | refine Ext.trans ?_ (by assumption)))) d2
  have z2 : w1.heap.size ≤ w2.heap.size := by have := d2.size; simpa using this
  have B2 : Blk w2 (w.heap.size + 1 + 1) 28 #[.int .i64 Hh, .slice (some ⟨gd, 0, none⟩) n0 n0, .slice none 0 0, .slice none 0 0, .slice none 0 0, .int .i64 0, .slice none 0 0] := Blk.keep ((HB2.out.set 0 (.int .i64 Hh)).set 1 (.slice (some ⟨gd, 0, none⟩) n0 n0)) d2
  have B1 : Blk w2 (w.heap.size + 1) 28 #[.int .i64 0, .slice none 0 0, .slice none 0 0, .slice none 0 0, .slice none 0 0, .int .i64 0, .slice none 0 0] := Blk.keep (Blk.far (Blk.far HB1.out (p := ⟨w.heap.size + 1 + 1, 0, none⟩) (by simp only; omega) (.int .i64 Hh)) (p := ⟨w.heap.size + 1 + 1, 1, none⟩) (by simp only; omega) (.slice (some ⟨gd, 0, none⟩) n0 n0)) d2
  replace od := own_keep (own_far (own_far od (by first | (simp; done) | (simp; omega) | omega) (.int .i64 Hh)) (by first | (simp; done) | (simp; omega) | omega) (.slice (some ⟨gd, 0, none⟩) n0 n0)) d2
  have at_f := At.of_own of
  replace at_f := at_f.mono (lo' := w1.heap.size) (by first | exact Nat.le_refl _ | (simp; done)) (Nat.le_refl _)
  replace of := own_weak (base' := w1.heap.size) of (by first | exact Nat.le_refl _ | (simp; done))
  clear d2 HB1 HB2 e1
  have HB1 := Lib.hid B1
  have HB2 := Lib.hid B2
  skip
  (try clear b0); (try clear b1); (try clear b2); (try clear b3); (try clear b4); (try clear b5); (try clear b6)
  have b3 := (e2.cellAt w.heap.size hbl 3).trans HB.out.c3
  simp only at b3
  have s2 : w2.cell? ⟨w.heap.size + 1 + 1, 2, none⟩ = some (.slice none 0 0) := B2.cell 2
  have f2 := B2.free 2
  clear B1 B2
  have l1 : w.heap.size + 1 < w2.heap.size := by omega
  have l2 : w.heap.size + 1 + 1 < w2.heap.size := by omega
  go_wp2_with fail
  (try clear s2 f2)
  clear l1 l2
  refine (laws_toIntS A2 n2 c2 _ _ (HX.out.rp.keep (by (repeat (first | exact Ext.refl _ | assumption | refine Ext.alloc ?_ _ | refine Ext.drew ?_ | refine Ext.drewN ?_ _ | refine Ext.setCell ?_ (by first | (simp; done) | (simp; omega)) _ | refine Ext.trans ?_ (by assumption))))) hp).mono ?_
  rintro e w3 ⟨gp, rfl, d3, op⟩
  have e3 : Ext wb w3 := Ext.trans (by (repeat (first | exact Ext.refl _ | assumption | refine Ext.alloc ?_ _ | refine Ext.drew ?_ | refine Ext.drewN ?_ _ | refine Ext.setCell ?_ (by first | (simp; done) | (simp; omega)) _ | refine Ext.trans ?_ (by assumption)))) d3
  have z3 : w2.heap.size ≤ w3.heap.size := by have := d3.size; simpa using this
  have B2 : Blk w3 (w.heap.size + 1 + 1) 28 #[.int .i64 Hh, .slice (some ⟨gd, 0, none⟩) n0 n0, .slice (some ⟨gf, 0, none⟩) n1 n1, .slice none 0 0, .slice none 0 0, .int .i64 0, .slice none 0 0] := Blk.keep (HB2.out.set 2 (.slice (some ⟨gf, 0, none⟩) n1 n1)) d3
  have B1 : Blk w3 (w.heap.size + 1) 28 #[.int .i64 0, .slice none 0 0, .slice none 0 0, .slice none 0 0, .slice none 0 0, .int .i64 0, .slice none 0 0] := Blk.keep (Blk.far HB1.out (p := ⟨w.heap.size + 1 + 1, 2, none⟩) (by simp only; omega) (.slice (some ⟨gf, 0, none⟩) n1 n1)) d3
  replace od := own_keep (own_far od (by first | (simp; done) | (simp; omega) | omega) (.slice (some ⟨gf, 0, none⟩) n1 n1)) d3
  replace of := own_keep (own_far of (by first | (simp; done) | (simp; omega) | omega) (.slice (some ⟨gf, 0, none⟩) n1 n1)) d3
  have at_p := At.of_own op
  replace at_p := at_p.mono (lo' := w2.heap.size) (by first | exact Nat.le_refl _ | (simp; done)) (Nat.le_refl _)
  replace op := own_weak (base' := w2.heap.size) op (by first | exact Nat.le_refl _ | (simp; done))
  clear d3 HB1 HB2 e2
  have HB1 := Lib.hid B1
  have HB2 := Lib.hid B2
  skip
  (try clear b0); (try clear b1); (try clear b2); (try clear b3); (try clear b4); (try clear b5); (try clear b6)
  have b4 := (e3.cellAt w.heap.size hbl 4).trans HB.out.c4
  simp only at b4
  have s3 : w3.cell? ⟨w.heap.size + 1 + 1, 3, none⟩ = some (.slice none 0 0) := B2.cell 3
  have f3 := B2.free 3
  clear B1 B2
  have l1 : w.heap.size + 1 < w3.heap.size := by omega
  have l2 : w.heap.size + 1 + 1 < w3.heap.size := by omega
  go_wp2_with fail
  (try clear s3 f3)
  clear l1 l2
  refine (laws_toIntS A3 n3 c3 _ _ (HX.out.rg.keep (by (repeat (first | exact Ext.refl _ | assumption | refine Ext.alloc ?_ _ | refine Ext.drew ?_ | refine Ext.drewN ?_ _ | refine Ext.setCell ?_ (by first | (simp; done) | (simp; omega)) _ | refine Ext.trans ?_ (by assumption))))) hg).mono ?_
  rintro e w4 ⟨gg, rfl, d4, og⟩
  have e4 : Ext wb w4 := Ext.trans (by (repeat (first | exact Ext.refl _ | assumption | refine Ext.alloc ?_ _ | refine Ext.drew ?_ | refine Ext.drewN ?_ _ | refine Ext.setCell ?_ (by first | (simp; done) | (simp; omega)) _ | refine Ext.trans ?_ (by assumption)))) d4
  have z4 : w3.heap.size ≤ w4.heap.size := by have := d4.size; simpa using this
  have B2 : Blk w4 (w.heap.size + 1 + 1) 28 #[.int .i64 Hh, .slice (some ⟨gd, 0, none⟩) n0 n0, .slice (some ⟨gf, 0, none⟩) n1 n1, .slice (some ⟨gp, 0, none⟩) n2 n2, .slice none 0 0, .int .i64 0, .slice none 0 0] := Blk.keep (HB2.out.set 3 (.slice (some ⟨gp, 0, none⟩) n2 n2)) d4
  have B1 : Blk w4 (w.heap.size + 1) 28 #[.int .i64 0, .slice none 0 0, .slice none 0 0, .slice none 0 0, .slice none 0 0, .int .i64 0, .slice none 0 0] := Blk.keep (Blk.far HB1.out (p := ⟨w.heap.size + 1 + 1, 3, none⟩) (by simp only; omega) (.slice (some ⟨gp, 0, none⟩) n2 n2)) d4
  replace od := own_keep (own_far od (by first | (simp; done) | (simp; omega) | omega) (.slice (some ⟨gp, 0, none⟩) n2 n2)) d4
  replace of := own_keep (own_far of (by first | (simp; done) | (simp; omega) | omega) (.slice (some ⟨gp, 0, none⟩) n2 n2)) d4
  replace op := own_keep (own_far op (by first | (simp; done) | (simp; omega) | omega) (.slice (some ⟨gp, 0, none⟩) n2 n2)) d4
  have at_g := At.of_own og
  replace at_g := at_g.mono (lo' := w3.heap.size) (by first | exact Nat.le_refl _ | (simp; done)) (Nat.le_refl _)
  replace og := own_weak (base' := w3.heap.size) og (by first | exact Nat.le_refl _ | (simp; done))
  clear d4 HB1 HB2 e3
  have HB1 := Lib.hid B1
  have HB2 := Lib.hid B2
  skip
  (try clear b0); (try clear b1); (try clear b2); (try clear b3); (try clear b4); (try clear b5); (try clear b6)
  have b5 := (e4.cellAt w.heap.size hbl 5).trans HB.out.c5
  simp only at b5
  have b6 := (e4.cellAt w.heap.size hbl 6).trans HB.out.c6
  simp only at b6
  have s4 : w4.cell? ⟨w.heap.size + 1 + 1, 4, none⟩ = some (.slice none 0 0) := B2.cell 4
  have f4 := B2.free 4
  have s5 : w4.cell? ⟨w.heap.size + 1 + 1, 5, none⟩ = some (.int .i64 0) := B2.cell 5
  have f5 := B2.free 5
  clear B1 B2
  have l1 : w.heap.size + 1 < w4.heap.size := by omega
  have l2 : w.heap.size + 1 + 1 < w4.heap.size := by omega
  go_wp2_with fail
  (try clear s4 f4)
  (try clear s5 f5)
  clear l1 l2
  refine (laws_toEntryS A4 n4 c4 _ _ (HX.out.rr.keep (by (repeat (first | exact Ext.refl _ | assumption | refine Ext.alloc ?_ _ | refine Ext.drew ?_ | refine Ext.drewN ?_ _ | refine Ext.setCell ?_ (by first | (simp; done) | (simp; omega)) _ | refine Ext.trans ?_ (by assumption))))) hr).mono ?_
  rintro e w5 ⟨gr, rfl, d5, or⟩
  have e5 : Ext wb w5 := Ext.trans (by (repeat (first | exact Ext.refl _ | assumption | refine Ext.alloc ?_ _ | refine Ext.drew ?_ | refine Ext.drewN ?_ _ | refine Ext.setCell ?_ (by first | (simp; done) | (simp; omega)) _ | refine Ext.trans ?_ (by assumption)))) d5
  have z5 : w4.heap.size ≤ w5.heap.size := by have := d5.size; simpa using this
  have B2 : Blk w5 (w.heap.size + 1 + 1) 28 #[.int .i64 Hh, .slice (some ⟨gd, 0, none⟩) n0 n0, .slice (some ⟨gf, 0, none⟩) n1 n1, .slice (some ⟨gp, 0, none⟩) n2 n2, .slice (some ⟨gg, 0, none⟩) n3 n3, .int .i64 day, .slice none 0 0] := Blk.keep ((HB2.out.set 4 (.slice (some ⟨gg, 0, none⟩) n3 n3)).set 5 (.int .i64 day)) d5
  have B1 : Blk w5 (w.heap.size + 1) 28 #[.int .i64 0, .slice none 0 0, .slice none 0 0, .slice none 0 0, .slice none 0 0, .int .i64 0, .slice none 0 0] := Blk.keep (Blk.far (Blk.far HB1.out (p := ⟨w.heap.size + 1 + 1, 4, none⟩) (by simp only; omega) (.slice (some ⟨gg, 0, none⟩) n3 n3)) (p := ⟨w.heap.size + 1 + 1, 5, none⟩) (by simp only; omega) (.int .i64 day)) d5
  replace od := own_keep (own_far (own_far od (by first | (simp; done) | (simp; omega) | omega) (.slice (some ⟨gg, 0, none⟩) n3 n3)) (by first | (simp; done) | (simp; omega) | omega) (.int .i64 day)) d5
  replace of := own_keep (own_far (own_far of (by first | (simp; done) | (simp; omega) | omega) (.slice (some ⟨gg, 0, none⟩) n3 n3)) (by first | (simp; done) | (simp; omega) | omega) (.int .i64 day)) d5
  replace op := own_keep (own_far (own_far op (by first | (simp; done) | (simp; omega) | omega) (.slice (some ⟨gg, 0, none⟩) n3 n3)) (by first | (simp; done) | (simp; omega) | omega) (.int .i64 day)) d5
  replace og := own_keep (own_far (own_far og (by first | (simp; done) | (simp; omega) | omega) (.slice (some ⟨gg, 0, none⟩) n3 n3)) (by first | (simp; done) | (simp; omega) | omega) (.int .i64 day)) d5
  have at_r := At.of_own or
  replace at_r := at_r.mono (lo' := w4.heap.size) (by first | exact Nat.le_refl _ | (simp; done)) (Nat.le_refl _)
  replace or := own_weak (base' := w4.heap.size) or (by first | exact Nat.le_refl _ | (simp; done))
  clear d5 HB1 HB2 e4
  have HB1 := Lib.hid B1
  have HB2 := Lib.hid B2
  skip
  (try clear b0); (try clear b1); (try clear b2); (try clear b3); (try clear b4); (try clear b5); (try clear b6)
  have s6 : w5.cell? ⟨w.heap.size + 1 + 1, 6, none⟩ = some (.slice none 0 0) := B2.cell 6
  have f6 := B2.free 6
  have s0 : w5.cell? ⟨w.heap.size + 1 + 1, 0, none⟩ = some (.int .i64 Hh) := B2.cell 0
  have s1 : w5.cell? ⟨w.heap.size + 1 + 1, 1, none⟩ = some (.slice (some ⟨gd, 0, none⟩) n0 n0) := B2.cell 1
  have s2 : w5.cell? ⟨w.heap.size + 1 + 1, 2, none⟩ = some (.slice (some ⟨gf, 0, none⟩) n1 n1) := B2.cell 2
  have s3 : w5.cell? ⟨w.heap.size + 1 + 1, 3, none⟩ = some (.slice (some ⟨gp, 0, none⟩) n2 n2) := B2.cell 3
  have s4 : w5.cell? ⟨w.heap.size + 1 + 1, 4, none⟩ = some (.slice (some ⟨gg, 0, none⟩) n3 n3) := B2.cell 4
  have s5 : w5.cell? ⟨w.heap.size + 1 + 1, 5, none⟩ = some (.int .i64 day) := B2.cell 5
  have t0 : w5.cell? ⟨w.heap.size + 1, 0, none⟩ = some (.int .i64 0) := B1.cell 0
  have r0 := B1.free 0
  have t1 : w5.cell? ⟨w.heap.size + 1, 1, none⟩ = some (.slice none 0 0) := B1.cell 1
  have r1 := B1.free 1
  have t2 : w5.cell? ⟨w.heap.size + 1, 2, none⟩ = some (.slice none 0 0) := B1.cell 2
  have r2 := B1.free 2
  have t3 : w5.cell? ⟨w.heap.size + 1, 3, none⟩ = some (.slice none 0 0) := B1.cell 3
  have r3 := B1.free 3
  have t4 : w5.cell? ⟨w.heap.size + 1, 4, none⟩ = some (.slice none 0 0) := B1.cell 4
  have r4 := B1.free 4
  have t5 : w5.cell? ⟨w.heap.size + 1, 5, none⟩ = some (.int .i64 0) := B1.cell 5
  have r5 := B1.free 5
  have t6 : w5.cell? ⟨w.heap.size + 1, 6, none⟩ = some (.slice none 0 0) := B1.cell 6
  have r6 := B1.free 6
  clear B1 B2
  have l1 : w.heap.size + 1 < w5.heap.size := by omega
  have l2 : w.heap.size + 1 + 1 < w5.heap.size := by omega
  have Od := Lib.hid od
  have ATd := Lib.hid at_d
  have Of := Lib.hid of
  have ATf := Lib.hid at_f
  have Op := Lib.hid op
  have ATp := Lib.hid at_p
  have Og := Lib.hid og
  have ATg := Lib.hid at_g
  have Or := Lib.hid or
  have ATr := Lib.hid at_r
  clear od at_d
  clear of at_f
  clear op at_p
  clear og at_g
  clear or at_r
  have E5 := Lib.hid e5
  clear e5
  go_wp2_with fail
  have e5 := E5.out
  have h2 : wb.heap.size ≤ w.heap.size + 1 + 1 := by omega
  have h1 : wb.heap.size ≤ w.heap.size + 1 := by omega
  have h3 : w.heap.size + 1 ≠ w.heap.size + 1 + 1 := by omega
  have h4 : w.heap.size + 1 + 1 < w.heap.size + 1 + 1 + 1 := by omega
  have h5 : w.heap.size + 1 < w.heap.size + 1 + 1 + 1 := by omega
  have hzd : w.heap.size + 1 + 1 + 1 ≤ w0.heap.size := by omega
  have hzf : w.heap.size + 1 + 1 + 1 ≤ w1.heap.size := by omega
  have hzp : w.heap.size + 1 + 1 + 1 ≤ w2.heap.size := by omega
  have hzg : w.heap.size + 1 + 1 + 1 ≤ w3.heap.size := by omega
  have hzr : w.heap.size + 1 + 1 + 1 ≤ w4.heap.size := by omega
  obtain ⟨WF, hWF⟩ : ∃ WF, WF = (((((((w5.setCell ⟨w.heap.size + 1 + 1, 6, none⟩ (.slice (some ⟨gr, 0, none⟩) n4 n4)).setCell ⟨w.heap.size + 1, 0, none⟩ (.int .i64 Hh)).setCell ⟨w.heap.size + 1, 1, none⟩ (.slice (some ⟨gd, 0, none⟩) n0 n0)).setCell ⟨w.heap.size + 1, 2, none⟩ (.slice (some ⟨gf, 0, none⟩) n1 n1)).setCell ⟨w.heap.size + 1, 3, none⟩ (.slice (some ⟨gp, 0, none⟩) n2 n2)).setCell ⟨w.heap.size + 1, 4, none⟩ (.slice (some ⟨gg, 0, none⟩) n3 n3)).setCell ⟨w.heap.size + 1, 5, none⟩ (.int .i64 day)).setCell ⟨w.heap.size + 1, 6, none⟩ (.slice (some ⟨gr, 0, none⟩) n4 n4) := ⟨_, rfl⟩
  have FE : Ext wb WF := by rw [hWF]; exact (Ext.setCell (Ext.setCell (Ext.setCell (Ext.setCell (Ext.setCell (Ext.setCell (Ext.setCell (e5.setCell (p := ⟨w.heap.size + 1 + 1, 6, none⟩) h2 (.slice (some ⟨gr, 0, none⟩) n4 n4)) (p := ⟨w.heap.size + 1, 0, none⟩) h1 (.int .i64 Hh)) (p := ⟨w.heap.size + 1, 1, none⟩) h1 (.slice (some ⟨gd, 0, none⟩) n0 n0)) (p := ⟨w.heap.size + 1, 2, none⟩) h1 (.slice (some ⟨gf, 0, none⟩) n1 n1)) (p := ⟨w.heap.size + 1, 3, none⟩) h1 (.slice (some ⟨gp, 0, none⟩) n2 n2)) (p := ⟨w.heap.size + 1, 4, none⟩) h1 (.slice (some ⟨gg, 0, none⟩) n3 n3)) (p := ⟨w.heap.size + 1, 5, none⟩) h1 (.int .i64 day)) (p := ⟨w.heap.size + 1, 6, none⟩) h1 (.slice (some ⟨gr, 0, none⟩) n4 n4))
  have FB : Blk WF (w.heap.size + 1) 28 #[.int .i64 Hh, .slice (some ⟨gd, 0, none⟩) n0 n0, .slice (some ⟨gf, 0, none⟩) n1 n1, .slice (some ⟨gp, 0, none⟩) n2 n2, .slice (some ⟨gg, 0, none⟩) n3 n3, .int .i64 day, .slice (some ⟨gr, 0, none⟩) n4 n4] := by rw [hWF]; exact (Blk.set (Blk.set (Blk.set (Blk.set (Blk.set (Blk.set (Blk.set (HB1.out.far (p := ⟨w.heap.size + 1 + 1, 6, none⟩) h3 (.slice (some ⟨gr, 0, none⟩) n4 n4)) 0 (.int .i64 Hh)) 1 (.slice (some ⟨gd, 0, none⟩) n0 n0)) 2 (.slice (some ⟨gf, 0, none⟩) n1 n1)) 3 (.slice (some ⟨gp, 0, none⟩) n2 n2)) 4 (.slice (some ⟨gg, 0, none⟩) n3 n3)) 5 (.int .i64 day)) 6 (.slice (some ⟨gr, 0, none⟩) n4 n4))
  have Fd : WF.ownsRow (w.heap.size + 1 + 1 + 1) 56 2 (.slice (some ⟨gd, 0, none⟩) n0 n0) n0 (m.ds.flatMap GDoor.enc) := by rw [hWF]; exact (own_far (own_far (own_far (own_far (own_far (own_far (own_far (own_far (own_weak Od.out hzd) h4 (.slice (some ⟨gr, 0, none⟩) n4 n4)) h5 (.int .i64 Hh)) h5 (.slice (some ⟨gd, 0, none⟩) n0 n0)) h5 (.slice (some ⟨gf, 0, none⟩) n1 n1)) h5 (.slice (some ⟨gp, 0, none⟩) n2 n2)) h5 (.slice (some ⟨gg, 0, none⟩) n3 n3)) h5 (.int .i64 day)) h5 (.slice (some ⟨gr, 0, none⟩) n4 n4))
  have Ff : WF.ownsRow (w.heap.size + 1 + 1 + 1) 3 1 (.slice (some ⟨gf, 0, none⟩) n1 n1) n1 (m.fs.flatMap ienc) := by rw [hWF]; exact (own_far (own_far (own_far (own_far (own_far (own_far (own_far (own_far (own_weak Of.out hzf) h4 (.slice (some ⟨gr, 0, none⟩) n4 n4)) h5 (.int .i64 Hh)) h5 (.slice (some ⟨gd, 0, none⟩) n0 n0)) h5 (.slice (some ⟨gf, 0, none⟩) n1 n1)) h5 (.slice (some ⟨gp, 0, none⟩) n2 n2)) h5 (.slice (some ⟨gg, 0, none⟩) n3 n3)) h5 (.int .i64 day)) h5 (.slice (some ⟨gr, 0, none⟩) n4 n4))
  have Fp : WF.ownsRow (w.heap.size + 1 + 1 + 1) 3 1 (.slice (some ⟨gp, 0, none⟩) n2 n2) n2 (m.ps.flatMap ienc) := by rw [hWF]; exact (own_far (own_far (own_far (own_far (own_far (own_far (own_far (own_far (own_weak Op.out hzp) h4 (.slice (some ⟨gr, 0, none⟩) n4 n4)) h5 (.int .i64 Hh)) h5 (.slice (some ⟨gd, 0, none⟩) n0 n0)) h5 (.slice (some ⟨gf, 0, none⟩) n1 n1)) h5 (.slice (some ⟨gp, 0, none⟩) n2 n2)) h5 (.slice (some ⟨gg, 0, none⟩) n3 n3)) h5 (.int .i64 day)) h5 (.slice (some ⟨gr, 0, none⟩) n4 n4))
  have Fg : WF.ownsRow (w.heap.size + 1 + 1 + 1) 3 1 (.slice (some ⟨gg, 0, none⟩) n3 n3) n3 (m.gs.flatMap ienc) := by rw [hWF]; exact (own_far (own_far (own_far (own_far (own_far (own_far (own_far (own_far (own_weak Og.out hzg) h4 (.slice (some ⟨gr, 0, none⟩) n4 n4)) h5 (.int .i64 Hh)) h5 (.slice (some ⟨gd, 0, none⟩) n0 n0)) h5 (.slice (some ⟨gf, 0, none⟩) n1 n1)) h5 (.slice (some ⟨gp, 0, none⟩) n2 n2)) h5 (.slice (some ⟨gg, 0, none⟩) n3 n3)) h5 (.int .i64 day)) h5 (.slice (some ⟨gr, 0, none⟩) n4 n4))
  have Fr : WF.ownsRow (w.heap.size + 1 + 1 + 1) 71 3 (.slice (some ⟨gr, 0, none⟩) n4 n4) n4 (m.rs.flatMap GEntry.enc) := by rw [hWF]; exact (own_far (own_far (own_far (own_far (own_far (own_far (own_far (own_far (own_weak Or.out hzr) h4 (.slice (some ⟨gr, 0, none⟩) n4 n4)) h5 (.int .i64 Hh)) h5 (.slice (some ⟨gd, 0, none⟩) n0 n0)) h5 (.slice (some ⟨gf, 0, none⟩) n1 n1)) h5 (.slice (some ⟨gp, 0, none⟩) n2 n2)) h5 (.slice (some ⟨gg, 0, none⟩) n3 n3)) h5 (.int .i64 day)) h5 (.slice (some ⟨gr, 0, none⟩) n4 n4))
  have y0 : WF.cell? ⟨w.heap.size + 1, 0, none⟩ = some (.int .i64 Hh) := FB.cell 0
  have y1 : WF.cell? ⟨w.heap.size + 1, 1, none⟩ = some (.slice (some ⟨gd, 0, none⟩) n0 n0) := FB.cell 1
  have y2 : WF.cell? ⟨w.heap.size + 1, 2, none⟩ = some (.slice (some ⟨gf, 0, none⟩) n1 n1) := FB.cell 2
  have y3 : WF.cell? ⟨w.heap.size + 1, 3, none⟩ = some (.slice (some ⟨gp, 0, none⟩) n2 n2) := FB.cell 3
  have y4 : WF.cell? ⟨w.heap.size + 1, 4, none⟩ = some (.slice (some ⟨gg, 0, none⟩) n3 n3) := FB.cell 4
  have y5 : WF.cell? ⟨w.heap.size + 1, 5, none⟩ = some (.int .i64 day) := FB.cell 5
  have y6 : WF.cell? ⟨w.heap.size + 1, 6, none⟩ = some (.slice (some ⟨gr, 0, none⟩) n4 n4) := FB.cell 6
  rw [← hWF]
  clear hWF e5
  refine bodyPost_ret (v := .agg #[.int .i64 Hh, .slice (some ⟨gd, 0, none⟩) n0 n0, .slice (some ⟨gf, 0, none⟩) n1 n1, .slice (some ⟨gp, 0, none⟩) n2 n2, .slice (some ⟨gg, 0, none⟩) n3 n3, .int .i64 day, .slice (some ⟨gr, 0, none⟩) n4 n4]) (by simp [results, Try.results23, go_sem, y0, y1, y2, y3, y4, y5, y6]) rfl ⟨gd, gf, gp, gg, gr, rfl, HE.out.trans FE, ?_⟩
  have hw3 : w.heap.size ≤ w.heap.size + 1 + 1 + 1 := by omega
  refine ⟨HeH.out, Hed.out, own_weak Fd hw3, own_weak Ff hw3, own_weak Fp hw3, own_weak Fg hw3, own_weak Fr hw3, ?_⟩
  have a1 := Apart.of_at ATd.out ATf.out (.inl (by omega))
  have a2 := Apart.of_at ATd.out ATp.out (.inl (by omega))
  have a3 := Apart.of_at ATd.out ATg.out (.inl (by omega))
  have a4 := Apart.of_at ATd.out ATr.out (.inl (by omega))
  have a5 := Apart.of_at ATf.out ATp.out (.inl (by omega))
  have a6 := Apart.of_at ATf.out ATg.out (.inl (by omega))
  have a7 := Apart.of_at ATf.out ATr.out (.inl (by omega))
  have a8 := Apart.of_at ATp.out ATg.out (.inl (by omega))
  have a9 := Apart.of_at ATp.out ATr.out (.inl (by omega))
  have a10 := Apart.of_at ATg.out ATr.out (.inl (by omega))
  exact apart5 a1 a2 a3 a4 a5 a6 a7 a8 a9 a10
set_option maxRecDepth 100000 in
set_option maxHeartbeats 4000000 in
theorem laws_eqMuseum (v v' : MV) (m : GMuseum) (w : World) (hx : MRd w v m) (hy : MRd w v' m) :
    Calls Try.prog 9 #[v.val, v'.val] w fun e w' => e = .returned (.bool true) ∧ Ext w w' := by
  obtain ⟨wa, hwa⟩ : ∃ wa, wa = w.alloc (.cells v.cells 28) := ⟨_, rfl⟩
  obtain ⟨wb, hwb⟩ : ∃ wb, wb = wa.alloc (.cells v'.cells 28) := ⟨_, rfl⟩
  have hsa : wa.heap.size = w.heap.size + 1 := by rw [hwa]; simp
  have hea : Ext wa wb := by rw [hwb]; exact (Ext.refl wa).alloc _
  have hbx := (MBox.new hwa).keep hea
  have hby := MBox.new hwb
  rw [hsa] at hby
  have hE : Ext w wb := Ext.trans (by rw [hwa]; exact (Ext.refl w).alloc _) hea
  have HX := Lib.hid (hx.keep hE)
  have HY := Lib.hid (hy.keep hE)
  obtain ⟨Hh, ⟨A0, n0, c0⟩, ⟨A1, n1, c1⟩, ⟨A2, n2, c2⟩, ⟨A3, n3, c3⟩, day, ⟨A4, n4, c4⟩⟩ := v
  obtain ⟨Hh', ⟨A0', n0', c0'⟩, ⟨A1', n1', c1'⟩, ⟨A2', n2', c2'⟩, ⟨A3', n3', c3'⟩, day', ⟨A4', n4', c4'⟩⟩ := v'
  obtain ⟨mH, mds, mfs, mps, mgs, md, mrs⟩ := m
  obtain rfl : Hh = mH := hx.eH
  obtain rfl : Hh' = Hh := hy.eH
  obtain rfl : day = md := hx.ed
  obtain rfl : day' = day := hy.ed
  have HE := Lib.hid hE
  have Hwa : Hid (wa = w.alloc (.cells #[.int .i64 Hh', .slice A0 n0 c0, .slice A1 n1 c1, .slice A2 n2 c2, .slice A3 n3 c3, .int .i64 day', .slice A4 n4 c4] 28)) := hwa
  have Hwb : Hid (wb = wa.alloc (.cells #[.int .i64 Hh', .slice A0' n0' c0', .slice A1' n1' c1', .slice A2' n2' c2', .slice A3' n3' c3', .int .i64 day', .slice A4' n4' c4'] 28)) := hwb
  have HBx := Lib.hid hbx
  have HBy := Lib.hid hby
  have hl1 := hbx.lt
  have hl2 := hby.lt
  have e0 := Ext.refl wb
  clear hE hea hwa hwb hbx hby hsa hx hy
  show Calls Try.prog 9 #[.agg #[.int .i64 Hh', .slice A0 n0 c0, .slice A1 n1 c1, .slice A2 n2 c2, .slice A3 n3 c3, .int .i64 day', .slice A4 n4 c4], .agg #[.int .i64 Hh', .slice A0' n0' c0', .slice A1' n1' c1', .slice A2' n2' c2', .slice A3' n3' c3', .int .i64 day', .slice A4' n4' c4']] w _
  have b0 := (e0.cellAt w.heap.size hl1 0).trans HBx.out.c0
  have d0 := (e0.cellAt (w.heap.size + 1) hl2 0).trans HBy.out.c0
  have b1 := (e0.cellAt w.heap.size hl1 1).trans HBx.out.c1
  have d1 := (e0.cellAt (w.heap.size + 1) hl2 1).trans HBy.out.c1
  simp only at b0 d0 b1 d1
  go_enter Try.func9, Try.ntmps9
  go_wp2_with fail
  rw [← Hwa.out, ← Hwb.out]
  refine (laws_eqHouse Hh' A0 n0 c0 A0' n0' c0' mds _ HX.out.rd HY.out.rd).mono ?_
  rintro e w1 ⟨rfl, h1⟩
  have e1 := e0.trans h1
  clear h1 e0 b0 d0 b1 d1
  have b2 := (e1.cellAt w.heap.size hl1 2).trans HBx.out.c2
  have d2 := (e1.cellAt (w.heap.size + 1) hl2 2).trans HBy.out.c2
  simp only at b2 d2
  go_wp2_with fail
  refine (laws_eqIntS A1 A1' n1 c1 n1' c1' mfs _ (HX.out.rf.keep e1) (HY.out.rf.keep e1)).mono ?_
  rintro e w2 ⟨rfl, h2⟩
  have e2 := e1.trans h2
  clear h2 e1 b2 d2
  have b3 := (e2.cellAt w.heap.size hl1 3).trans HBx.out.c3
  have d3 := (e2.cellAt (w.heap.size + 1) hl2 3).trans HBy.out.c3
  simp only at b3 d3
  go_wp2_with fail
  refine (laws_eqIntS A2 A2' n2 c2 n2' c2' mps _ (HX.out.rp.keep e2) (HY.out.rp.keep e2)).mono ?_
  rintro e w3 ⟨rfl, h3⟩
  have e3 := e2.trans h3
  clear h3 e2 b3 d3
  have b4 := (e3.cellAt w.heap.size hl1 4).trans HBx.out.c4
  have d4 := (e3.cellAt (w.heap.size + 1) hl2 4).trans HBy.out.c4
  simp only at b4 d4
  go_wp2_with fail
  refine (laws_eqIntS A3 A3' n3 c3 n3' c3' mgs _ (HX.out.rg.keep e3) (HY.out.rg.keep e3)).mono ?_
  rintro e w4 ⟨rfl, h4⟩
  have e4 := e3.trans h4
  clear h4 e3 b4 d4
  have b5 := (e4.cellAt w.heap.size hl1 5).trans HBx.out.c5
  have d5 := (e4.cellAt (w.heap.size + 1) hl2 5).trans HBy.out.c5
  have b6 := (e4.cellAt w.heap.size hl1 6).trans HBx.out.c6
  have d6 := (e4.cellAt (w.heap.size + 1) hl2 6).trans HBy.out.c6
  simp only at b5 d5 b6 d6
  go_wp2_with fail
  refine (laws_eqEntryS A4 A4' n4 c4 n4' c4' mrs _ (HX.out.rr.keep e4) (HY.out.rr.keep e4)).mono ?_
  rintro e w5 ⟨rfl, h5⟩
  have e5 := e4.trans h5
  clear h5 e4 b5 d5 b6 d6
  go_wp2_with fail
  go_ret
  exact ⟨rfl, HE.out.trans e5⟩
end Go.Proofs.Ytkelmeemblmggaa
