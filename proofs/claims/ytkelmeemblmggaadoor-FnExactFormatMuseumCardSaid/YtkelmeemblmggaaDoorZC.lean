/- Texts of one proof, laid one behind the other (H6, KM, S1, SM1); no condition but what stands at each theorem. -/
import Derived.IntWalk
import Derived.KernelRfl
import Derived.Test.YtkelmeemblmggaaDoorZA
import Derived.Test.YtkelmeemblmggaaDoorZB
/- Contracts of the laws' copies of museums; no condition but what stands at each theorem. -/
namespace Go.Proofs.YtkelmeemblmggaaDoor
set_option linter.unusedSimpArgs false
set_option linter.unusedVariables false
open Go.RowKit Go.Sort
set_option maxRecDepth 100000 in
set_option maxHeartbeats 4000000 in
theorem laws_toMuseum (v : MV) (m : GMuseum) (w : World) (hx : MRd w v m) (hd : v.sd.n ≤ 1048576) (hf : v.sf.n ≤ 1048576) (hp : v.sp.n ≤ 1048576) (hg : v.sg.n ≤ 1048576) (hr : v.sr.n ≤ 1048576) :
    Calls Tryd.prog 7 #[v.val] w fun e w' => ∃ gd gf gp gg gr : Nat, e = .returned (MV.val ⟨v.H, ⟨some ⟨gd, 0, none⟩, v.sd.n, v.sd.n⟩, ⟨some ⟨gf, 0, none⟩, v.sf.n, v.sf.n⟩, ⟨some ⟨gp, 0, none⟩, v.sp.n, v.sp.n⟩, ⟨some ⟨gg, 0, none⟩, v.sg.n, v.sg.n⟩, v.d, ⟨some ⟨gr, 0, none⟩, v.sr.n, v.sr.n⟩⟩) ∧ Ext w w' ∧
      MOwn w' w.heap.size ⟨v.H, ⟨some ⟨gd, 0, none⟩, v.sd.n, v.sd.n⟩, ⟨some ⟨gf, 0, none⟩, v.sf.n, v.sf.n⟩, ⟨some ⟨gp, 0, none⟩, v.sp.n, v.sp.n⟩, ⟨some ⟨gg, 0, none⟩, v.sg.n, v.sg.n⟩, v.d, ⟨some ⟨gr, 0, none⟩, v.sr.n, v.sr.n⟩⟩ m := by
  obtain ⟨wb, hwb⟩ : ∃ wb, wb = w.alloc (.cells v.cells 28) := ⟨_, rfl⟩
  have hbx := MBox.new hwb
  have hE : Ext w wb := by rw [hwb]; exact (Ext.refl w).alloc _
  have hsb : wb.heap.size = w.heap.size + 1 := by rw [hwb]; simp
  have HX := Lib.hid (hx.keep hE)
  have HeH := Lib.hid hx.eH
  have Hed := Lib.hid hx.ed
  obtain ⟨Hh, ⟨A0, n0, c0⟩, ⟨A1, n1, c1⟩, ⟨A2, n2, c2⟩, ⟨A3, n3, c3⟩, day, ⟨A4, n4, c4⟩⟩ := v
  simp only at hd hf hp hg hr
  obtain ⟨wz, hwz⟩ : ∃ wz, wz = wb.alloc (.cells #[.int .i64 0, .slice none 0 0, .slice none 0 0, .slice none 0 0, .slice none 0 0, .int .i64 0, .slice none 0 0] 37) := ⟨_, rfl⟩
  obtain ⟨w0, hw0⟩ : ∃ w0, w0 = wz.alloc (.cells #[.int .i64 0, .slice none 0 0, .slice none 0 0, .slice none 0 0, .slice none 0 0, .int .i64 0, .slice none 0 0] 37) := ⟨_, rfl⟩
  have hsz : wz.heap.size = w.heap.size + 1 + 1 := by rw [hwz]; simp [hsb]
  have hs0 : w0.heap.size = w.heap.size + 1 + 1 + 1 := by rw [hw0]; simp [hsz]
  have B1 : Blk w0 (w.heap.size + 1) 37 #[.int .i64 0, .slice none 0 0, .slice none 0 0, .slice none 0 0, .slice none 0 0, .int .i64 0, .slice none 0 0] := by
    rw [hw0, hwz, ← hsb]; exact (Blk.new _ _ _).keep ((Ext.refl _).alloc _)
  have B2 : Blk w0 (w.heap.size + 1 + 1) 37 #[.int .i64 0, .slice none 0 0, .slice none 0 0, .slice none 0 0, .slice none 0 0, .int .i64 0, .slice none 0 0] := by
    rw [hw0, ← hsz]; exact Blk.new _ _ _
  have e0 : Ext wb w0 := by rw [hw0, hwz]; exact ((Ext.refl wb).alloc _).alloc _
  have HE := Lib.hid hE
  have Hwb : Hid (wb = w.alloc (.cells #[.int .i64 Hh, .slice A0 n0 c0, .slice A1 n1 c1, .slice A2 n2 c2, .slice A3 n3 c3, .int .i64 day, .slice A4 n4 c4] 28)) := hwb
  have Hwz := Lib.hid hwz
  have Hw0 := Lib.hid hw0
  have HB := Lib.hid hbx
  have Hsb := Lib.hid hsb
  have HB1 := Lib.hid B1
  have HB2 := Lib.hid B2
  have hbl := hbx.lt
  have z0 : w.heap.size + 1 + 1 + 1 ≤ w0.heap.size := by omega
  have hsl : wb.heap.size ≤ w.heap.size + 1 := by omega
  clear hE hwb hwz hw0 hbx hsb hsz hs0 hx B1 B2
  show Calls Tryd.prog 7 #[.agg #[.int .i64 Hh, .slice A0 n0 c0, .slice A1 n1 c1, .slice A2 n2 c2, .slice A3 n3 c3, .int .i64 day, .slice A4 n4 c4]] w _
  have hm : ∀ i, (w.heap.size + 1 + 1 = w.heap.size + i) → i = 2 := by intro i h; omega
  clear hm
  have b0 := (e0.cellAt w.heap.size hbl 0).trans HB.out.c0
  have b1 := (e0.cellAt w.heap.size hbl 1).trans HB.out.c1
  simp only at b0 b1
  go_enter Tryd.func7, Tryd.ntmps7
  go_wp2_with fail
  rw [← Hwb.out, ← Hwz.out, ← Hw0.out]
  refine (laws_toHouse Hh A0 n0 c0 m.ds _ (HX.out.rd.keep e0) hd).mono ?_
  rintro e w1 ⟨gd, rfl, d1, od⟩
  have e1 : Ext wb w1 := Ext.trans (by (repeat (first | exact Ext.refl _ | assumption | refine Ext.alloc ?_ _ | refine Ext.drew ?_ | refine Ext.drewN ?_ _ | refine Ext.setCell ?_ (by first | (simp; done) | (simp; omega)) _ | refine Ext.trans ?_ (by assumption)))) d1
  have z1 : w0.heap.size ≤ w1.heap.size := by have := d1.size; simpa using this
  have B2 : Blk w1 (w.heap.size + 1 + 1) 37 #[.int .i64 0, .slice none 0 0, .slice none 0 0, .slice none 0 0, .slice none 0 0, .int .i64 0, .slice none 0 0] := Blk.keep HB2.out d1
  have B1 : Blk w1 (w.heap.size + 1) 37 #[.int .i64 0, .slice none 0 0, .slice none 0 0, .slice none 0 0, .slice none 0 0, .int .i64 0, .slice none 0 0] := Blk.keep HB1.out d1
  have at_d := At.of_own od
  replace at_d := at_d.mono (lo' := w0.heap.size) (by first | exact Nat.le_refl _ | (simp; done)) (Nat.le_refl _)
  replace od := own_weak (base' := w0.heap.size) od (by first | exact Nat.le_refl _ | (simp; done))
  clear d1 HB1 HB2 e0
  have HB1 := Lib.hid B1
  have HB2 := Lib.hid B2
  (try clear b0); (try clear b1); (try clear b2); (try clear b3); (try clear b4); (try clear b5); (try clear b6)
  have b2 := (e1.cellAt w.heap.size hbl 2).trans HB.out.c2
  simp only at b2
  have s0 : w1.cell? ⟨w.heap.size + 1 + 1, 0, none⟩ = some (.int .i64 0) := B2.cell 0
  have f0 := B2.free 0
  have s1 : w1.cell? ⟨w.heap.size + 1 + 1, 1, none⟩ = some (.slice none 0 0) := B2.cell 1
  have f1 := B2.free 1
  clear B1 B2
  have l1 : w.heap.size + 1 < w1.heap.size := by omega
  have l2 : w.heap.size + 1 + 1 < w1.heap.size := by omega
  go_wp2_with fail
  (try clear s0 f0)
  (try clear s1 f1)
  clear l1 l2
  refine (laws_toIntS A1 n1 c1 _ _ (HX.out.rf.keep (by (repeat (first | exact Ext.refl _ | assumption | refine Ext.alloc ?_ _ | refine Ext.drew ?_ | refine Ext.drewN ?_ _ | refine Ext.setCell ?_ (by first | (simp; done) | (simp; omega)) _ | refine Ext.trans ?_ (by assumption))))) hf).mono ?_
  rintro e w2 ⟨gf, rfl, d2, of⟩
  have e2 : Ext wb w2 := Ext.trans (by (repeat (first | exact Ext.refl _ | assumption | refine Ext.alloc ?_ _ | refine Ext.drew ?_ | refine Ext.drewN ?_ _ | refine Ext.setCell ?_ (by first | (simp; done) | (simp; omega)) _ | refine Ext.trans ?_ (by assumption)))) d2
  have z2 : w1.heap.size ≤ w2.heap.size := by have := d2.size; simpa using this
  have B2 : Blk w2 (w.heap.size + 1 + 1) 37 #[.int .i64 Hh, .slice (some ⟨gd, 0, none⟩) n0 n0, .slice none 0 0, .slice none 0 0, .slice none 0 0, .int .i64 0, .slice none 0 0] := Blk.keep ((HB2.out.set 0 (.int .i64 Hh)).set 1 (.slice (some ⟨gd, 0, none⟩) n0 n0)) d2
  have B1 : Blk w2 (w.heap.size + 1) 37 #[.int .i64 0, .slice none 0 0, .slice none 0 0, .slice none 0 0, .slice none 0 0, .int .i64 0, .slice none 0 0] := Blk.keep (Blk.far (Blk.far HB1.out (p := ⟨w.heap.size + 1 + 1, 0, none⟩) (by simp only; omega) (.int .i64 Hh)) (p := ⟨w.heap.size + 1 + 1, 1, none⟩) (by simp only; omega) (.slice (some ⟨gd, 0, none⟩) n0 n0)) d2
  replace od := own_keep (own_far (own_far od (by first | (simp; done) | (simp; omega) | omega) (.int .i64 Hh)) (by first | (simp; done) | (simp; omega) | omega) (.slice (some ⟨gd, 0, none⟩) n0 n0)) d2
  have at_f := At.of_own of
  replace at_f := at_f.mono (lo' := w1.heap.size) (by first | exact Nat.le_refl _ | (simp; done)) (Nat.le_refl _)
  replace of := own_weak (base' := w1.heap.size) of (by first | exact Nat.le_refl _ | (simp; done))
  clear d2 HB1 HB2 e1
  have HB1 := Lib.hid B1
  have HB2 := Lib.hid B2
  skip
  (try clear b0); (try clear b1); (try clear b2); (try clear b3); (try clear b4); (try clear b5); (try clear b6)
  have b3 := (e2.cellAt w.heap.size hbl 3).trans HB.out.c3
  simp only at b3
  have s2 : w2.cell? ⟨w.heap.size + 1 + 1, 2, none⟩ = some (.slice none 0 0) := B2.cell 2
  have f2 := B2.free 2
  clear B1 B2
  have l1 : w.heap.size + 1 < w2.heap.size := by omega
  have l2 : w.heap.size + 1 + 1 < w2.heap.size := by omega
  go_wp2_with fail
  (try clear s2 f2)
  clear l1 l2
  refine (laws_toIntS A2 n2 c2 _ _ (HX.out.rp.keep (by (repeat (first | exact Ext.refl _ | assumption | refine Ext.alloc ?_ _ | refine Ext.drew ?_ | refine Ext.drewN ?_ _ | refine Ext.setCell ?_ (by first | (simp; done) | (simp; omega)) _ | refine Ext.trans ?_ (by assumption))))) hp).mono ?_
  rintro e w3 ⟨gp, rfl, d3, op⟩
  have e3 : Ext wb w3 := Ext.trans (by (repeat (first | exact Ext.refl _ | assumption | refine Ext.alloc ?_ _ | refine Ext.drew ?_ | refine Ext.drewN ?_ _ | refine Ext.setCell ?_ (by first | (simp; done) | (simp; omega)) _ | refine Ext.trans ?_ (by assumption)))) d3
  have z3 : w2.heap.size ≤ w3.heap.size := by have := d3.size; simpa using this
  have B2 : Blk w3 (w.heap.size + 1 + 1) 37 #[.int .i64 Hh, .slice (some ⟨gd, 0, none⟩) n0 n0, .slice (some ⟨gf, 0, none⟩) n1 n1, .slice none 0 0, .slice none 0 0, .int .i64 0, .slice none 0 0] := Blk.keep (HB2.out.set 2 (.slice (some ⟨gf, 0, none⟩) n1 n1)) d3
  have B1 : Blk w3 (w.heap.size + 1) 37 #[.int .i64 0, .slice none 0 0, .slice none 0 0, .slice none 0 0, .slice none 0 0, .int .i64 0, .slice none 0 0] := Blk.keep (Blk.far HB1.out (p := ⟨w.heap.size + 1 + 1, 2, none⟩) (by simp only; omega) (.slice (some ⟨gf, 0, none⟩) n1 n1)) d3
  replace od := own_keep (own_far od (by first | (simp; done) | (simp; omega) | omega) (.slice (some ⟨gf, 0, none⟩) n1 n1)) d3
  replace of := own_keep (own_far of (by first | (simp; done) | (simp; omega) | omega) (.slice (some ⟨gf, 0, none⟩) n1 n1)) d3
  have at_p := At.of_own op
  replace at_p := at_p.mono (lo' := w2.heap.size) (by first | exact Nat.le_refl _ | (simp; done)) (Nat.le_refl _)
  replace op := own_weak (base' := w2.heap.size) op (by first | exact Nat.le_refl _ | (simp; done))
  clear d3 HB1 HB2 e2
  have HB1 := Lib.hid B1
  have HB2 := Lib.hid B2
  skip
  (try clear b0); (try clear b1); (try clear b2); (try clear b3); (try clear b4); (try clear b5); (try clear b6)
  have b4 := (e3.cellAt w.heap.size hbl 4).trans HB.out.c4
  simp only at b4
  have s3 : w3.cell? ⟨w.heap.size + 1 + 1, 3, none⟩ = some (.slice none 0 0) := B2.cell 3
  have f3 := B2.free 3
  clear B1 B2
  have l1 : w.heap.size + 1 < w3.heap.size := by omega
  have l2 : w.heap.size + 1 + 1 < w3.heap.size := by omega
  go_wp2_with fail
  (try clear s3 f3)
  clear l1 l2
  refine (laws_toIntS A3 n3 c3 _ _ (HX.out.rg.keep (by (repeat (first | exact Ext.refl _ | assumption | refine Ext.alloc ?_ _ | refine Ext.drew ?_ | refine Ext.drewN ?_ _ | refine Ext.setCell ?_ (by first | (simp; done) | (simp; omega)) _ | refine Ext.trans ?_ (by assumption))))) hg).mono ?_
  rintro e w4 ⟨gg, rfl, d4, og⟩
  have e4 : Ext wb w4 := Ext.trans (by (repeat (first | exact Ext.refl _ | assumption | refine Ext.alloc ?_ _ | refine Ext.drew ?_ | refine Ext.drewN ?_ _ | refine Ext.setCell ?_ (by first | (simp; done) | (simp; omega)) _ | refine Ext.trans ?_ (by assumption)))) d4
  have z4 : w3.heap.size ≤ w4.heap.size := by have := d4.size; simpa using this
  have B2 : Blk w4 (w.heap.size + 1 + 1) 37 #[.int .i64 Hh, .slice (some ⟨gd, 0, none⟩) n0 n0, .slice (some ⟨gf, 0, none⟩) n1 n1, .slice (some ⟨gp, 0, none⟩) n2 n2, .slice none 0 0, .int .i64 0, .slice none 0 0] := Blk.keep (HB2.out.set 3 (.slice (some ⟨gp, 0, none⟩) n2 n2)) d4
  have B1 : Blk w4 (w.heap.size + 1) 37 #[.int .i64 0, .slice none 0 0, .slice none 0 0, .slice none 0 0, .slice none 0 0, .int .i64 0, .slice none 0 0] := Blk.keep (Blk.far HB1.out (p := ⟨w.heap.size + 1 + 1, 3, none⟩) (by simp only; omega) (.slice (some ⟨gp, 0, none⟩) n2 n2)) d4
  replace od := own_keep (own_far od (by first | (simp; done) | (simp; omega) | omega) (.slice (some ⟨gp, 0, none⟩) n2 n2)) d4
  replace of := own_keep (own_far of (by first | (simp; done) | (simp; omega) | omega) (.slice (some ⟨gp, 0, none⟩) n2 n2)) d4
  replace op := own_keep (own_far op (by first | (simp; done) | (simp; omega) | omega) (.slice (some ⟨gp, 0, none⟩) n2 n2)) d4
  have at_g := At.of_own og
  replace at_g := at_g.mono (lo' := w3.heap.size) (by first | exact Nat.le_refl _ | (simp; done)) (Nat.le_refl _)
  replace og := own_weak (base' := w3.heap.size) og (by first | exact Nat.le_refl _ | (simp; done))
  clear d4 HB1 HB2 e3
  have HB1 := Lib.hid B1
  have HB2 := Lib.hid B2
  skip
  (try clear b0); (try clear b1); (try clear b2); (try clear b3); (try clear b4); (try clear b5); (try clear b6)
  have b5 := (e4.cellAt w.heap.size hbl 5).trans HB.out.c5
  simp only at b5
  have b6 := (e4.cellAt w.heap.size hbl 6).trans HB.out.c6
  simp only at b6
  have s4 : w4.cell? ⟨w.heap.size + 1 + 1, 4, none⟩ = some (.slice none 0 0) := B2.cell 4
  have f4 := B2.free 4
  have s5 : w4.cell? ⟨w.heap.size + 1 + 1, 5, none⟩ = some (.int .i64 0) := B2.cell 5
  have f5 := B2.free 5
  clear B1 B2
  have l1 : w.heap.size + 1 < w4.heap.size := by omega
  have l2 : w.heap.size + 1 + 1 < w4.heap.size := by omega
  go_wp2_with fail
  (try clear s4 f4)
  (try clear s5 f5)
  clear l1 l2
  refine (laws_toEntryS A4 n4 c4 _ _ (HX.out.rr.keep (by (repeat (first | exact Ext.refl _ | assumption | refine Ext.alloc ?_ _ | refine Ext.drew ?_ | refine Ext.drewN ?_ _ | refine Ext.setCell ?_ (by first | (simp; done) | (simp; omega)) _ | refine Ext.trans ?_ (by assumption))))) hr).mono ?_
  rintro e w5 ⟨gr, rfl, d5, or⟩
  have e5 : Ext wb w5 := Ext.trans (by (repeat (first | exact Ext.refl _ | assumption | refine Ext.alloc ?_ _ | refine Ext.drew ?_ | refine Ext.drewN ?_ _ | refine Ext.setCell ?_ (by first | (simp; done) | (simp; omega)) _ | refine Ext.trans ?_ (by assumption)))) d5
  have z5 : w4.heap.size ≤ w5.heap.size := by have := d5.size; simpa using this
  have B2 : Blk w5 (w.heap.size + 1 + 1) 37 #[.int .i64 Hh, .slice (some ⟨gd, 0, none⟩) n0 n0, .slice (some ⟨gf, 0, none⟩) n1 n1, .slice (some ⟨gp, 0, none⟩) n2 n2, .slice (some ⟨gg, 0, none⟩) n3 n3, .int .i64 day, .slice none 0 0] := Blk.keep ((HB2.out.set 4 (.slice (some ⟨gg, 0, none⟩) n3 n3)).set 5 (.int .i64 day)) d5
  have B1 : Blk w5 (w.heap.size + 1) 37 #[.int .i64 0, .slice none 0 0, .slice none 0 0, .slice none 0 0, .slice none 0 0, .int .i64 0, .slice none 0 0] := Blk.keep (Blk.far (Blk.far HB1.out (p := ⟨w.heap.size + 1 + 1, 4, none⟩) (by simp only; omega) (.slice (some ⟨gg, 0, none⟩) n3 n3)) (p := ⟨w.heap.size + 1 + 1, 5, none⟩) (by simp only; omega) (.int .i64 day)) d5
  replace od := own_keep (own_far (own_far od (by first | (simp; done) | (simp; omega) | omega) (.slice (some ⟨gg, 0, none⟩) n3 n3)) (by first | (simp; done) | (simp; omega) | omega) (.int .i64 day)) d5
  replace of := own_keep (own_far (own_far of (by first | (simp; done) | (simp; omega) | omega) (.slice (some ⟨gg, 0, none⟩) n3 n3)) (by first | (simp; done) | (simp; omega) | omega) (.int .i64 day)) d5
  replace op := own_keep (own_far (own_far op (by first | (simp; done) | (simp; omega) | omega) (.slice (some ⟨gg, 0, none⟩) n3 n3)) (by first | (simp; done) | (simp; omega) | omega) (.int .i64 day)) d5
  replace og := own_keep (own_far (own_far og (by first | (simp; done) | (simp; omega) | omega) (.slice (some ⟨gg, 0, none⟩) n3 n3)) (by first | (simp; done) | (simp; omega) | omega) (.int .i64 day)) d5
  have at_r := At.of_own or
  replace at_r := at_r.mono (lo' := w4.heap.size) (by first | exact Nat.le_refl _ | (simp; done)) (Nat.le_refl _)
  replace or := own_weak (base' := w4.heap.size) or (by first | exact Nat.le_refl _ | (simp; done))
  clear d5 HB1 HB2 e4
  have HB1 := Lib.hid B1
  have HB2 := Lib.hid B2
  skip
  (try clear b0); (try clear b1); (try clear b2); (try clear b3); (try clear b4); (try clear b5); (try clear b6)
  have s6 : w5.cell? ⟨w.heap.size + 1 + 1, 6, none⟩ = some (.slice none 0 0) := B2.cell 6
  have f6 := B2.free 6
  have s0 : w5.cell? ⟨w.heap.size + 1 + 1, 0, none⟩ = some (.int .i64 Hh) := B2.cell 0
  have s1 : w5.cell? ⟨w.heap.size + 1 + 1, 1, none⟩ = some (.slice (some ⟨gd, 0, none⟩) n0 n0) := B2.cell 1
  have s2 : w5.cell? ⟨w.heap.size + 1 + 1, 2, none⟩ = some (.slice (some ⟨gf, 0, none⟩) n1 n1) := B2.cell 2
  have s3 : w5.cell? ⟨w.heap.size + 1 + 1, 3, none⟩ = some (.slice (some ⟨gp, 0, none⟩) n2 n2) := B2.cell 3
  have s4 : w5.cell? ⟨w.heap.size + 1 + 1, 4, none⟩ = some (.slice (some ⟨gg, 0, none⟩) n3 n3) := B2.cell 4
  have s5 : w5.cell? ⟨w.heap.size + 1 + 1, 5, none⟩ = some (.int .i64 day) := B2.cell 5
  have t0 : w5.cell? ⟨w.heap.size + 1, 0, none⟩ = some (.int .i64 0) := B1.cell 0
  have r0 := B1.free 0
  have t1 : w5.cell? ⟨w.heap.size + 1, 1, none⟩ = some (.slice none 0 0) := B1.cell 1
  have r1 := B1.free 1
  have t2 : w5.cell? ⟨w.heap.size + 1, 2, none⟩ = some (.slice none 0 0) := B1.cell 2
  have r2 := B1.free 2
  have t3 : w5.cell? ⟨w.heap.size + 1, 3, none⟩ = some (.slice none 0 0) := B1.cell 3
  have r3 := B1.free 3
  have t4 : w5.cell? ⟨w.heap.size + 1, 4, none⟩ = some (.slice none 0 0) := B1.cell 4
  have r4 := B1.free 4
  have t5 : w5.cell? ⟨w.heap.size + 1, 5, none⟩ = some (.int .i64 0) := B1.cell 5
  have r5 := B1.free 5
  have t6 : w5.cell? ⟨w.heap.size + 1, 6, none⟩ = some (.slice none 0 0) := B1.cell 6
  have r6 := B1.free 6
  clear B1 B2
  have l1 : w.heap.size + 1 < w5.heap.size := by omega
  have l2 : w.heap.size + 1 + 1 < w5.heap.size := by omega
  have Od := Lib.hid od
  have ATd := Lib.hid at_d
  have Of := Lib.hid of
  have ATf := Lib.hid at_f
  have Op := Lib.hid op
  have ATp := Lib.hid at_p
  have Og := Lib.hid og
  have ATg := Lib.hid at_g
  have Or := Lib.hid or
  have ATr := Lib.hid at_r
  clear od at_d
  clear of at_f
  clear op at_p
  clear og at_g
  clear or at_r
  have E5 := Lib.hid e5
  clear e5
  go_wp2_with fail
  have e5 := E5.out
  have h2 : wb.heap.size ≤ w.heap.size + 1 + 1 := by omega
  have h1 : wb.heap.size ≤ w.heap.size + 1 := by omega
  have h3 : w.heap.size + 1 ≠ w.heap.size + 1 + 1 := by omega
  have h4 : w.heap.size + 1 + 1 < w.heap.size + 1 + 1 + 1 := by omega
  have h5 : w.heap.size + 1 < w.heap.size + 1 + 1 + 1 := by omega
  have hzd : w.heap.size + 1 + 1 + 1 ≤ w0.heap.size := by omega
  have hzf : w.heap.size + 1 + 1 + 1 ≤ w1.heap.size := by omega
  have hzp : w.heap.size + 1 + 1 + 1 ≤ w2.heap.size := by omega
  have hzg : w.heap.size + 1 + 1 + 1 ≤ w3.heap.size := by omega
  have hzr : w.heap.size + 1 + 1 + 1 ≤ w4.heap.size := by omega
  obtain ⟨WF, hWF⟩ : ∃ WF, WF = (((((((w5.setCell ⟨w.heap.size + 1 + 1, 6, none⟩ (.slice (some ⟨gr, 0, none⟩) n4 n4)).setCell ⟨w.heap.size + 1, 0, none⟩ (.int .i64 Hh)).setCell ⟨w.heap.size + 1, 1, none⟩ (.slice (some ⟨gd, 0, none⟩) n0 n0)).setCell ⟨w.heap.size + 1, 2, none⟩ (.slice (some ⟨gf, 0, none⟩) n1 n1)).setCell ⟨w.heap.size + 1, 3, none⟩ (.slice (some ⟨gp, 0, none⟩) n2 n2)).setCell ⟨w.heap.size + 1, 4, none⟩ (.slice (some ⟨gg, 0, none⟩) n3 n3)).setCell ⟨w.heap.size + 1, 5, none⟩ (.int .i64 day)).setCell ⟨w.heap.size + 1, 6, none⟩ (.slice (some ⟨gr, 0, none⟩) n4 n4) := ⟨_, rfl⟩
  have FE : Ext wb WF := by rw [hWF]; exact (Ext.setCell (Ext.setCell (Ext.setCell (Ext.setCell (Ext.setCell (Ext.setCell (Ext.setCell (e5.setCell (p := ⟨w.heap.size + 1 + 1, 6, none⟩) h2 (.slice (some ⟨gr, 0, none⟩) n4 n4)) (p := ⟨w.heap.size + 1, 0, none⟩) h1 (.int .i64 Hh)) (p := ⟨w.heap.size + 1, 1, none⟩) h1 (.slice (some ⟨gd, 0, none⟩) n0 n0)) (p := ⟨w.heap.size + 1, 2, none⟩) h1 (.slice (some ⟨gf, 0, none⟩) n1 n1)) (p := ⟨w.heap.size + 1, 3, none⟩) h1 (.slice (some ⟨gp, 0, none⟩) n2 n2)) (p := ⟨w.heap.size + 1, 4, none⟩) h1 (.slice (some ⟨gg, 0, none⟩) n3 n3)) (p := ⟨w.heap.size + 1, 5, none⟩) h1 (.int .i64 day)) (p := ⟨w.heap.size + 1, 6, none⟩) h1 (.slice (some ⟨gr, 0, none⟩) n4 n4))
  have FB : Blk WF (w.heap.size + 1) 37 #[.int .i64 Hh, .slice (some ⟨gd, 0, none⟩) n0 n0, .slice (some ⟨gf, 0, none⟩) n1 n1, .slice (some ⟨gp, 0, none⟩) n2 n2, .slice (some ⟨gg, 0, none⟩) n3 n3, .int .i64 day, .slice (some ⟨gr, 0, none⟩) n4 n4] := by rw [hWF]; exact (Blk.set (Blk.set (Blk.set (Blk.set (Blk.set (Blk.set (Blk.set (HB1.out.far (p := ⟨w.heap.size + 1 + 1, 6, none⟩) h3 (.slice (some ⟨gr, 0, none⟩) n4 n4)) 0 (.int .i64 Hh)) 1 (.slice (some ⟨gd, 0, none⟩) n0 n0)) 2 (.slice (some ⟨gf, 0, none⟩) n1 n1)) 3 (.slice (some ⟨gp, 0, none⟩) n2 n2)) 4 (.slice (some ⟨gg, 0, none⟩) n3 n3)) 5 (.int .i64 day)) 6 (.slice (some ⟨gr, 0, none⟩) n4 n4))
  have Fd : WF.ownsRow (w.heap.size + 1 + 1 + 1) 95 2 (.slice (some ⟨gd, 0, none⟩) n0 n0) n0 (m.ds.flatMap GDoor.enc) := by rw [hWF]; exact (own_far (own_far (own_far (own_far (own_far (own_far (own_far (own_far (own_weak Od.out hzd) h4 (.slice (some ⟨gr, 0, none⟩) n4 n4)) h5 (.int .i64 Hh)) h5 (.slice (some ⟨gd, 0, none⟩) n0 n0)) h5 (.slice (some ⟨gf, 0, none⟩) n1 n1)) h5 (.slice (some ⟨gp, 0, none⟩) n2 n2)) h5 (.slice (some ⟨gg, 0, none⟩) n3 n3)) h5 (.int .i64 day)) h5 (.slice (some ⟨gr, 0, none⟩) n4 n4))
  have Ff : WF.ownsRow (w.heap.size + 1 + 1 + 1) 3 1 (.slice (some ⟨gf, 0, none⟩) n1 n1) n1 (m.fs.flatMap ienc) := by rw [hWF]; exact (own_far (own_far (own_far (own_far (own_far (own_far (own_far (own_far (own_weak Of.out hzf) h4 (.slice (some ⟨gr, 0, none⟩) n4 n4)) h5 (.int .i64 Hh)) h5 (.slice (some ⟨gd, 0, none⟩) n0 n0)) h5 (.slice (some ⟨gf, 0, none⟩) n1 n1)) h5 (.slice (some ⟨gp, 0, none⟩) n2 n2)) h5 (.slice (some ⟨gg, 0, none⟩) n3 n3)) h5 (.int .i64 day)) h5 (.slice (some ⟨gr, 0, none⟩) n4 n4))
  have Fp : WF.ownsRow (w.heap.size + 1 + 1 + 1) 3 1 (.slice (some ⟨gp, 0, none⟩) n2 n2) n2 (m.ps.flatMap ienc) := by rw [hWF]; exact (own_far (own_far (own_far (own_far (own_far (own_far (own_far (own_far (own_weak Op.out hzp) h4 (.slice (some ⟨gr, 0, none⟩) n4 n4)) h5 (.int .i64 Hh)) h5 (.slice (some ⟨gd, 0, none⟩) n0 n0)) h5 (.slice (some ⟨gf, 0, none⟩) n1 n1)) h5 (.slice (some ⟨gp, 0, none⟩) n2 n2)) h5 (.slice (some ⟨gg, 0, none⟩) n3 n3)) h5 (.int .i64 day)) h5 (.slice (some ⟨gr, 0, none⟩) n4 n4))
  have Fg : WF.ownsRow (w.heap.size + 1 + 1 + 1) 3 1 (.slice (some ⟨gg, 0, none⟩) n3 n3) n3 (m.gs.flatMap ienc) := by rw [hWF]; exact (own_far (own_far (own_far (own_far (own_far (own_far (own_far (own_far (own_weak Og.out hzg) h4 (.slice (some ⟨gr, 0, none⟩) n4 n4)) h5 (.int .i64 Hh)) h5 (.slice (some ⟨gd, 0, none⟩) n0 n0)) h5 (.slice (some ⟨gf, 0, none⟩) n1 n1)) h5 (.slice (some ⟨gp, 0, none⟩) n2 n2)) h5 (.slice (some ⟨gg, 0, none⟩) n3 n3)) h5 (.int .i64 day)) h5 (.slice (some ⟨gr, 0, none⟩) n4 n4))
  have Fr : WF.ownsRow (w.heap.size + 1 + 1 + 1) 51 3 (.slice (some ⟨gr, 0, none⟩) n4 n4) n4 (m.rs.flatMap GEntry.enc) := by rw [hWF]; exact (own_far (own_far (own_far (own_far (own_far (own_far (own_far (own_far (own_weak Or.out hzr) h4 (.slice (some ⟨gr, 0, none⟩) n4 n4)) h5 (.int .i64 Hh)) h5 (.slice (some ⟨gd, 0, none⟩) n0 n0)) h5 (.slice (some ⟨gf, 0, none⟩) n1 n1)) h5 (.slice (some ⟨gp, 0, none⟩) n2 n2)) h5 (.slice (some ⟨gg, 0, none⟩) n3 n3)) h5 (.int .i64 day)) h5 (.slice (some ⟨gr, 0, none⟩) n4 n4))
  have y0 : WF.cell? ⟨w.heap.size + 1, 0, none⟩ = some (.int .i64 Hh) := FB.cell 0
  have y1 : WF.cell? ⟨w.heap.size + 1, 1, none⟩ = some (.slice (some ⟨gd, 0, none⟩) n0 n0) := FB.cell 1
  have y2 : WF.cell? ⟨w.heap.size + 1, 2, none⟩ = some (.slice (some ⟨gf, 0, none⟩) n1 n1) := FB.cell 2
  have y3 : WF.cell? ⟨w.heap.size + 1, 3, none⟩ = some (.slice (some ⟨gp, 0, none⟩) n2 n2) := FB.cell 3
  have y4 : WF.cell? ⟨w.heap.size + 1, 4, none⟩ = some (.slice (some ⟨gg, 0, none⟩) n3 n3) := FB.cell 4
  have y5 : WF.cell? ⟨w.heap.size + 1, 5, none⟩ = some (.int .i64 day) := FB.cell 5
  have y6 : WF.cell? ⟨w.heap.size + 1, 6, none⟩ = some (.slice (some ⟨gr, 0, none⟩) n4 n4) := FB.cell 6
  rw [← hWF]
  clear hWF e5
  refine bodyPost_ret (v := .agg #[.int .i64 Hh, .slice (some ⟨gd, 0, none⟩) n0 n0, .slice (some ⟨gf, 0, none⟩) n1 n1, .slice (some ⟨gp, 0, none⟩) n2 n2, .slice (some ⟨gg, 0, none⟩) n3 n3, .int .i64 day, .slice (some ⟨gr, 0, none⟩) n4 n4]) (by simp [results, Tryd.results7, go_sem, y0, y1, y2, y3, y4, y5, y6]) rfl ⟨gd, gf, gp, gg, gr, rfl, HE.out.trans FE, ?_⟩
  have hw3 : w.heap.size ≤ w.heap.size + 1 + 1 + 1 := by omega
  refine ⟨HeH.out, Hed.out, own_weak Fd hw3, own_weak Ff hw3, own_weak Fp hw3, own_weak Fg hw3, own_weak Fr hw3, ?_⟩
  have a1 := Apart.of_at ATd.out ATf.out (.inl (by omega))
  have a2 := Apart.of_at ATd.out ATp.out (.inl (by omega))
  have a3 := Apart.of_at ATd.out ATg.out (.inl (by omega))
  have a4 := Apart.of_at ATd.out ATr.out (.inl (by omega))
  have a5 := Apart.of_at ATf.out ATp.out (.inl (by omega))
  have a6 := Apart.of_at ATf.out ATg.out (.inl (by omega))
  have a7 := Apart.of_at ATf.out ATr.out (.inl (by omega))
  have a8 := Apart.of_at ATp.out ATg.out (.inl (by omega))
  have a9 := Apart.of_at ATp.out ATr.out (.inl (by omega))
  have a10 := Apart.of_at ATg.out ATr.out (.inl (by omega))
  exact apart5 a1 a2 a3 a4 a5 a6 a7 a8 a9 a10
set_option maxRecDepth 100000 in
set_option maxHeartbeats 4000000 in
theorem laws_eqMuseum (v v' : MV) (m : GMuseum) (w : World) (hx : MRd w v m) (hy : MRd w v' m) :
    Calls Tryd.prog 10 #[v.val, v'.val] w fun e w' => e = .returned (.bool true) ∧ Ext w w' := by
  obtain ⟨wa, hwa⟩ : ∃ wa, wa = w.alloc (.cells v.cells 37) := ⟨_, rfl⟩
  obtain ⟨wb, hwb⟩ : ∃ wb, wb = wa.alloc (.cells v'.cells 37) := ⟨_, rfl⟩
  have hsa : wa.heap.size = w.heap.size + 1 := by rw [hwa]; simp
  have hea : Ext wa wb := by rw [hwb]; exact (Ext.refl wa).alloc _
  have hbx := (MBox.new hwa).keep hea
  have hby := MBox.new hwb
  rw [hsa] at hby
  have hE : Ext w wb := Ext.trans (by rw [hwa]; exact (Ext.refl w).alloc _) hea
  have HX := Lib.hid (hx.keep hE)
  have HY := Lib.hid (hy.keep hE)
  obtain ⟨Hh, ⟨A0, n0, c0⟩, ⟨A1, n1, c1⟩, ⟨A2, n2, c2⟩, ⟨A3, n3, c3⟩, day, ⟨A4, n4, c4⟩⟩ := v
  obtain ⟨Hh', ⟨A0', n0', c0'⟩, ⟨A1', n1', c1'⟩, ⟨A2', n2', c2'⟩, ⟨A3', n3', c3'⟩, day', ⟨A4', n4', c4'⟩⟩ := v'
  obtain ⟨mH, mds, mfs, mps, mgs, md, mrs⟩ := m
  obtain rfl : Hh = mH := hx.eH
  obtain rfl : Hh' = Hh := hy.eH
  obtain rfl : day = md := hx.ed
  obtain rfl : day' = day := hy.ed
  have HE := Lib.hid hE
  have Hwa : Hid (wa = w.alloc (.cells #[.int .i64 Hh', .slice A0 n0 c0, .slice A1 n1 c1, .slice A2 n2 c2, .slice A3 n3 c3, .int .i64 day', .slice A4 n4 c4] 37)) := hwa
  have Hwb : Hid (wb = wa.alloc (.cells #[.int .i64 Hh', .slice A0' n0' c0', .slice A1' n1' c1', .slice A2' n2' c2', .slice A3' n3' c3', .int .i64 day', .slice A4' n4' c4'] 37)) := hwb
  have HBx := Lib.hid hbx
  have HBy := Lib.hid hby
  have hl1 := hbx.lt
  have hl2 := hby.lt
  have e0 := Ext.refl wb
  clear hE hea hwa hwb hbx hby hsa hx hy
  show Calls Tryd.prog 10 #[.agg #[.int .i64 Hh', .slice A0 n0 c0, .slice A1 n1 c1, .slice A2 n2 c2, .slice A3 n3 c3, .int .i64 day', .slice A4 n4 c4], .agg #[.int .i64 Hh', .slice A0' n0' c0', .slice A1' n1' c1', .slice A2' n2' c2', .slice A3' n3' c3', .int .i64 day', .slice A4' n4' c4']] w _
  have b0 := (e0.cellAt w.heap.size hl1 0).trans HBx.out.c0
  have d0 := (e0.cellAt (w.heap.size + 1) hl2 0).trans HBy.out.c0
  have b1 := (e0.cellAt w.heap.size hl1 1).trans HBx.out.c1
  have d1 := (e0.cellAt (w.heap.size + 1) hl2 1).trans HBy.out.c1
  simp only at b0 d0 b1 d1
  go_enter Tryd.func10, Tryd.ntmps10
  go_wp2_with fail
  rw [← Hwa.out, ← Hwb.out]
  refine (laws_eqHouse Hh' A0 n0 c0 A0' n0' c0' mds _ HX.out.rd HY.out.rd).mono ?_
  rintro e w1 ⟨rfl, h1⟩
  have e1 := e0.trans h1
  clear h1 e0 b0 d0 b1 d1
  have b2 := (e1.cellAt w.heap.size hl1 2).trans HBx.out.c2
  have d2 := (e1.cellAt (w.heap.size + 1) hl2 2).trans HBy.out.c2
  simp only at b2 d2
  go_wp2_with fail
  refine (laws_eqIntS A1 A1' n1 c1 n1' c1' mfs _ (HX.out.rf.keep e1) (HY.out.rf.keep e1)).mono ?_
  rintro e w2 ⟨rfl, h2⟩
  have e2 := e1.trans h2
  clear h2 e1 b2 d2
  have b3 := (e2.cellAt w.heap.size hl1 3).trans HBx.out.c3
  have d3 := (e2.cellAt (w.heap.size + 1) hl2 3).trans HBy.out.c3
  simp only at b3 d3
  go_wp2_with fail
  refine (laws_eqIntS A2 A2' n2 c2 n2' c2' mps _ (HX.out.rp.keep e2) (HY.out.rp.keep e2)).mono ?_
  rintro e w3 ⟨rfl, h3⟩
  have e3 := e2.trans h3
  clear h3 e2 b3 d3
  have b4 := (e3.cellAt w.heap.size hl1 4).trans HBx.out.c4
  have d4 := (e3.cellAt (w.heap.size + 1) hl2 4).trans HBy.out.c4
  simp only at b4 d4
  go_wp2_with fail
  refine (laws_eqIntS A3 A3' n3 c3 n3' c3' mgs _ (HX.out.rg.keep e3) (HY.out.rg.keep e3)).mono ?_
  rintro e w4 ⟨rfl, h4⟩
  have e4 := e3.trans h4
  clear h4 e3 b4 d4
  have b5 := (e4.cellAt w.heap.size hl1 5).trans HBx.out.c5
  have d5 := (e4.cellAt (w.heap.size + 1) hl2 5).trans HBy.out.c5
  have b6 := (e4.cellAt w.heap.size hl1 6).trans HBx.out.c6
  have d6 := (e4.cellAt (w.heap.size + 1) hl2 6).trans HBy.out.c6
  simp only at b5 d5 b6 d6
  go_wp2_with fail
  refine (laws_eqEntryS A4 A4' n4 c4 n4' c4' mrs _ (HX.out.rr.keep e4) (HY.out.rr.keep e4)).mono ?_
  rintro e w5 ⟨rfl, h5⟩
  have e5 := e4.trans h5
  clear h5 e4 b5 d5 b6 d6
  go_wp2_with fail
  go_ret
  exact ⟨rfl, HE.out.trans e5⟩
end Go.Proofs.YtkelmeemblmggaaDoor
/- Worlds in which only some blocks have turned; no condition but what stands at each theorem. -/
namespace Go.Proofs.YtkelmeemblmggaaDoor
set_option linter.unusedSimpArgs false
set_option linter.unusedVariables false
open Go.RowKit Go.Sort
/-- Only blocks from lo to below hi have turned; new blocks may have come. -/
def KeptOut (lo hi : Nat) (w w' : World) : Prop := Below 0 w w' ∧ ∀ i, i < w.heap.size → (i < lo ∨ hi ≤ i) → w'.heap[i]? = w.heap[i]?
theorem KeptOut.of_grown {w w' : World} {row : Option Nat} {lo hi : Nat} (g : w.grownBy w' row) (h : ∀ k, row = some k → lo ≤ k ∧ k < hi) : KeptOut lo hi w w' :=
  ⟨⟨g.os, g.tape, g.output, g.size, fun i hi => absurd hi (Nat.not_lt_zero _)⟩, fun i hi ho => g.block i hi (fun e => by have := h i e.symm; omega)⟩
theorem KeptOut.of_ext {w w' : World} {lo hi : Nat} (e : Ext w w') : KeptOut lo hi w w' :=
  ⟨⟨e.os, e.tape, e.output, e.size, fun i hi => absurd hi (Nat.not_lt_zero _)⟩, fun i hi _ => e.block i hi⟩
theorem KeptOut.trans {a b c : World} {lo hi : Nat} (h : KeptOut lo hi a b) (k : KeptOut lo hi b c) : KeptOut lo hi a c :=
  ⟨⟨k.1.os.trans h.1.os, k.1.tape.trans h.1.tape, k.1.output.trans h.1.output, Nat.le_trans h.1.size k.1.size, fun i hi => absurd hi (Nat.not_lt_zero _)⟩, fun i hi ho => (k.2 i (Nat.lt_of_lt_of_le hi h.1.size) ho).trans (h.2 i hi ho)⟩
theorem KeptOut.mono {w w' : World} {lo hi lo' hi' : Nat} (h : KeptOut lo hi w w') (h1 : lo' ≤ lo) (h2 : hi ≤ hi') : KeptOut lo' hi' w w' :=
  ⟨h.1, fun i hi ho => h.2 i hi (by omega)⟩
theorem KeptOut.ext {a w w' : World} {lo hi : Nat} (k : KeptOut lo hi w w') (h : Ext a w) (ha : a.heap.size ≤ lo) : Ext a w' :=
  ⟨k.1.os.trans h.os, k.1.tape.trans h.tape, k.1.output.trans h.output, Nat.le_trans h.size k.1.size, fun i hi => (k.2 i (Nat.lt_of_lt_of_le hi h.size) (.inl (Nat.lt_of_lt_of_le hi ha))).trans (h.block i hi)⟩
theorem KeptOut.size {w w' : World} {lo hi : Nat} (k : KeptOut lo hi w w') : w.heap.size ≤ w'.heap.size := k.1.size
theorem KeptOut.own {w w' : World} {lo hi base : Nat} {e : TypeId} {m n : Nat} {v : Value} {L : List Value} (k : KeptOut lo hi w w') (h : w.ownsRow base e m v n L) (ha : ∀ g, v.ownBlock = some g → g < lo ∨ hi ≤ g) : w'.ownsRow base e m v n L := by
  rcases h.2 with ⟨rfl, hx⟩ | ⟨g, cap, cur, rfl, hbg, hg, r⟩
  · exact ⟨h.1, .inl ⟨rfl, hx⟩⟩
  · exact ⟨h.1, .inr ⟨g, cap, cur, rfl, hbg, (k.2 g (Array.getElem?_eq_some_iff.1 hg).1 (ha g rfl)).trans hg, r⟩⟩
theorem MOwn.out {w w' : World} {lo hi base : Nat} {v : MV} {m : GMuseum} (h : MOwn w base v m) (k : KeptOut lo hi w w') (hb : hi ≤ base) : MOwn w' base v m :=
  ⟨h.eH, h.ed, k.own h.od fun g hg => .inr (Nat.le_trans hb (h.od.lt g hg).1), k.own h.of_ fun g hg => .inr (Nat.le_trans hb (h.of_.lt g hg).1), k.own h.op fun g hg => .inr (Nat.le_trans hb (h.op.lt g hg).1),
    k.own h.og fun g hg => .inr (Nat.le_trans hb (h.og.lt g hg).1), k.own h.or_ fun g hg => .inr (Nat.le_trans hb (h.or_.lt g hg).1), h.ap⟩
/-- All rows of the museum's value lie in blocks from lo to below hi. -/
def MAt (lo hi : Nat) (v : MV) : Prop := At lo hi v.sd.v ∧ At lo hi v.sf.v ∧ At lo hi v.sp.v ∧ At lo hi v.sg.v ∧ At lo hi v.sr.v
theorem MAt.of_own {w : World} {base : Nat} {v : MV} {m : GMuseum} (h : MOwn w base v m) : MAt base w.heap.size v :=
  ⟨At.of_own h.od, At.of_own h.of_, At.of_own h.op, At.of_own h.og, At.of_own h.or_⟩
theorem MAt.mono {lo hi lo' hi' : Nat} {v : MV} (h : MAt lo hi v) (h1 : lo' ≤ lo) (h2 : hi ≤ hi') : MAt lo' hi' v :=
  ⟨h.1.mono h1 h2, h.2.1.mono h1 h2, h.2.2.1.mono h1 h2, h.2.2.2.1.mono h1 h2, h.2.2.2.2.mono h1 h2⟩
theorem MOwn.below {w w' : World} {lo hi base base' : Nat} {v : MV} {m : GMuseum} (h : MOwn w base v m) (k : KeptOut lo hi w w') (a : MAt base' lo v) : MOwn w' base v m :=
  ⟨h.eH, h.ed, k.own h.od fun g hg => .inl (a.1 g hg).2, k.own h.of_ fun g hg => .inl (a.2.1 g hg).2, k.own h.op fun g hg => .inl (a.2.2.1 g hg).2, k.own h.og fun g hg => .inl (a.2.2.2.1 g hg).2, k.own h.or_ fun g hg => .inl (a.2.2.2.2 g hg).2, h.ap⟩
theorem KeptOut.of_at {w w' : World} {lo hi : Nat} {v : Value} (g : w.grownBy w' v.ownBlock) (h : At lo hi v) : KeptOut lo hi w w' := .of_grown g fun k hk => h k hk
theorem aparts {d f p g r : Value} (h : List.Pairwise Apart [d, f, p, g, r]) : Apart d f ∧ Apart d p ∧ Apart d g ∧ Apart d r ∧ Apart f p ∧ Apart f g ∧ Apart f r ∧ Apart p g ∧ Apart p r ∧ Apart g r := by
  simp only [List.pairwise_cons, List.mem_cons, List.not_mem_nil, or_false] at h
  obtain ⟨h1, h2, h3, h4, -⟩ := h
  exact ⟨h1 _ (.inl rfl), h1 _ (.inr (.inl rfl)), h1 _ (.inr (.inr (.inl rfl))), h1 _ (.inr (.inr (.inr rfl))), h2 _ (.inl rfl), h2 _ (.inr (.inl rfl)), h2 _ (.inr (.inr rfl)), h3 _ (.inl rfl), h3 _ (.inr rfl), h4 _ rfl⟩
theorem MBox.out {w w' : World} {lo hi b : Nat} {v : MV} (h : MBox w b v) (k : KeptOut lo hi w w') (hb : b < lo ∨ hi ≤ b) : MBox w' b v := by
  have e : w'.heap[b]? = w.heap[b]? := k.2 b h.lt hb
  have c : ∀ o, w'.cell? ⟨b, o, none⟩ = w.cell? ⟨b, o, none⟩ := fun o => by simp only [World.cell?, e]
  exact ⟨Nat.lt_of_lt_of_le h.lt k.size, (c 0).trans h.c0, (c 1).trans h.c1, (c 2).trans h.c2, (c 3).trans h.c3, (c 4).trans h.c4, (c 5).trans h.c5, (c 6).trans h.c6⟩
/-- A museum is stored into a box. -/
theorem store7 {w : World} {g : Nat} {t : TypeId} {a0 a1 a2 a3 a4 a5 a6 : Value} (h : Blk w g t #[a0, a1, a2, a3, a4, a5, a6]) (u0 u1 u2 u3 u4 u5 u6 : Value) :
    Blk (((((((w.setCell ⟨g, 0, none⟩ u0).setCell ⟨g, 1, none⟩ u1).setCell ⟨g, 2, none⟩ u2).setCell ⟨g, 3, none⟩ u3).setCell ⟨g, 4, none⟩ u4).setCell ⟨g, 5, none⟩ u5).setCell ⟨g, 6, none⟩ u6) g t #[u0, u1, u2, u3, u4, u5, u6] ∧
    KeptOut g (g + 1) w (((((((w.setCell ⟨g, 0, none⟩ u0).setCell ⟨g, 1, none⟩ u1).setCell ⟨g, 2, none⟩ u2).setCell ⟨g, 3, none⟩ u3).setCell ⟨g, 4, none⟩ u4).setCell ⟨g, 5, none⟩ u5).setCell ⟨g, 6, none⟩ u6) := by
  have h1 := ((((((h.set 0 u0).set 1 u1).set 2 u2).set 3 u3).set 4 u4).set 5 u5).set 6 u6
  simp only [List.setIfInBounds_toArray, List.set_cons_succ, List.set_cons_zero] at h1
  have g1 := grown_set (grown_set (grown_set (grown_set (grown_set (grown_set (grown_set (grown_refl w (some g)) 0 u0) 1 u1) 2 u2) 3 u3) 4 u4) 5 u5) 6 u6
  exact ⟨h1, .of_grown g1 fun k hk => by injection hk with hk; omega⟩
theorem MBox.of_blk {w : World} {b : Nat} {v : MV} {t : TypeId} (h : Blk w b t v.cells) : MBox w b v :=
  ⟨h.lt, h.cellAt (i := 0) (by simp [MV.cells]), h.cellAt (i := 1) (by simp [MV.cells]), h.cellAt (i := 2) (by simp [MV.cells]), h.cellAt (i := 3) (by simp [MV.cells]), h.cellAt (i := 4) (by simp [MV.cells]), h.cellAt (i := 5) (by simp [MV.cells]), h.cellAt (i := 6) (by simp [MV.cells])⟩
end Go.Proofs.YtkelmeemblmggaaDoor
/- A text of lemmas for the laws of this seat; what each says stands at its theorem; no condition. -/
namespace Go.Proofs.YtkelmeemblmggaaDoor
set_option linter.unusedSimpArgs false
set_option linter.unusedVariables false
open Go.RowKit
/-! Contracts of the functions on plain structs. -/
set_option maxRecDepth 100000 in
set_option maxHeartbeats 400000 in
theorem impl_between (n lo hi : Int) (w : World) :
    Calls Tryd.prog 50 #[.int .i64 n, .int .i64 lo, .int .i64 hi] w fun e w' => e = .returned (.bool (inB n lo hi)) ∧ w = w' := by
  go_enter Tryd.func50, Tryd.ntmps50
  go_wp2
  all_goals go_ret
  all_goals exact ⟨ret_bool (by simp [inB]; omega), rfl⟩
set_option maxRecDepth 100000 in
set_option maxHeartbeats 400000 in
theorem spec_l01In (n lo hi : Int) (w : World) :
    Calls Tryd.prog 43 #[.int .i64 n, .int .i64 lo, .int .i64 hi] w fun e w' => e = .returned (.bool (inB n lo hi)) ∧ w = w' := by
  go_enter Tryd.func43, Tryd.ntmps43
  go_wp2
  all_goals go_ret
  all_goals exact ⟨ret_bool (by simp [inB]; omega), rfl⟩
def shOk (s : GShift) : Bool := inB s.g 0 20 && inB s.f 0 10000 && inB s.t 0 10000 && decide (s.f < s.t)
def loOk (s : GLoan) : Bool := inB s.l 0 1000 && inB s.g 0 1000 && inB s.lo 0 100 && inB s.hi 0 100 && decide (s.lo ≤ s.hi)
def acOk (s : GAct) : Bool :=
  if s.k == 1 then inB s.a 0 5 && inB s.b 0 6 && s.c == 0 && s.d == 0 else if s.k == 2 then inB s.a 0 5 && inB s.b 0 6 && inB s.c 0 5 && inB s.d 0 5
  else if s.k == 3 then inB s.a 1 1000 && s.b == 0 && s.c == 0 && s.d == 0 else if s.k == 5 then inB s.a 0 5 && s.b == 0 && s.c == 0 && s.d == 0
  else if s.k == 4 then s.a == 0 && s.b == 0 && s.c == 0 && s.d == 0 else false
end Go.Proofs.YtkelmeemblmggaaDoor
/- Contracts of DigestOf, SealAfter, FirstBroken and IsSealed; no condition but what stands at each theorem. -/
namespace Go.Proofs.YtkelmeemblmggaaDoor
set_option linter.unusedSimpArgs false
set_option linter.unusedVariables false
open Go.RowKit Go.Sort
def digS (n : Nat) (b : UInt8) : Nat := (n * 257 + b.toNat + 1) % 1000003
def digL (l : List UInt8) : Nat := l.foldl digS 7
def digest (x : ByteArray) : Int := if x.size ≤ 200 then (digL x.data.toList : Int) else -1
theorem digS_lt (n : Nat) (b : UInt8) : digS n b < 1000003 := Nat.mod_lt _ (by decide)
theorem digL_lt (l : List UInt8) : digL l < 1000003 := by
  unfold digL
  have key : ∀ (l : List UInt8) (n : Nat), n < 1000003 → l.foldl digS n < 1000003 := by
    intro l
    induction l with
    | nil => intro n h; exact h
    | cons b l ih => intro n _; exact ih _ (digS_lt n b)
  exact key l 7 (by decide)
theorem digest_bd (x : ByteArray) : -1 ≤ digest x ∧ digest x ≤ 1000002 := by
  unfold digest
  have := digL_lt x.data.toList
  split <;> omega
theorem bytes_at (s : ByteArray) (k : Nat) (h : k < s.size) : s.data.toList[k]? = some s[k] := by
  have : k < s.data.toList.length := by simpa using h
  rw [List.getElem?_eq_getElem this]
  rfl
def sealB (s m : Int) (x : ByteArray) : Int := if inB s 0 1000002 && (inB m 0 1000000 && decide (0 ≤ digest x)) then (s * 1009 + m * 31 + digest x) % 1000003 else -1
theorem sealB_bd (s m : Int) (x : ByteArray) : -1 ≤ sealB s m x ∧ sealB s m x ≤ 1000002 := by
  unfold sealB
  split <;> omega
def early (p : Option Int) (m : Int) : Bool := match p with | none => false | some q => decide (m < q)
def brokF : Int → Option Int → Nat → List GEntry → Int
  | _, _, _, [] => -1
  | s, p, k, e :: r => if decide (sealB s e.m e.x < 0) || ((sealB s e.m e.x != e.s) || early p e.m) then (k : Int) else brokF e.s (some e.m) (k + 1) r
def brokenI (rs : List GEntry) : Int := brokF 1 none 0 rs
theorem brokF_bd : ∀ (rs : List GEntry) (s : Int) (p : Option Int) (k : Nat), -1 ≤ brokF s p k rs ∧ brokF s p k rs < (k : Int) + rs.length
  | [], s, p, k => by simp [brokF]; omega
  | e :: r, s, p, k => by
    unfold brokF
    split
    · simp; omega
    · have := brokF_bd r e.s (some e.m) (k + 1)
      simp
      omega
def sealedB (rs : List GEntry) : Bool := decide (rs.length ≤ 30) && (brokenI rs == -1)
def prevM (rs : List GEntry) : Nat → Option Int
  | 0 => none
  | k + 1 => (rs[k]?).map (·.m)
theorem box3 (w : World) (a b c : Value) (t : TypeId) (wb : World) (hwb : wb = w.alloc (.cells #[a, b, c] t)) :
    Ext w wb ∧ wb.heap.size = w.heap.size + 1 ∧ wb.cell? ⟨w.heap.size, 0, none⟩ = some a ∧ wb.cell? ⟨w.heap.size, 1, none⟩ = some b ∧ wb.cell? ⟨w.heap.size, 2, none⟩ = some c := by
  subst hwb
  refine ⟨(Ext.refl w).alloc _, by simp, ?_, ?_, ?_⟩
  all_goals rw [World.cell?_alloc_new]; rfl
set_option maxRecDepth 100000 in
set_option maxHeartbeats 1000000 in
theorem spec_DigestOf (x : ByteArray) (w : World) (hx : x.size ≤ 9223372036854775807) : Calls Tryd.prog 99 #[.string x] w fun e w' => e = .returned (.int .i64 (digest x)) ∧ w = w' := by
  by_cases h2 : x.size ≤ 200
  case neg =>
    have HF : Hid (digest x = -1) := by unfold Hid digest; rw [if_neg h2]
    go_enter Tryd.func99, Tryd.ntmps99
    go_wp2
    go_ret
    exact ⟨ret_int (by rw [HF.out]), rfl⟩
  case pos =>
    have HF : Hid (digest x = (x.data.toList.foldl digS 7 : Nat)) := by unfold Hid digest; rw [if_pos h2]; rfl
    go_enter Tryd.func99, Tryd.ntmps99
    go_wp2
    go_loop [3, 4] (fun n i => ∃ k N : Nat, k ≤ x.size ∧ i = .int .i64 k ∧ n = .int .i64 (N : Int) ∧ N < 1000003 ∧ Hid (x.data.toList.foldl digS 7 = (x.data.toList.drop k).foldl digS N)) (fun _ i => x.size - (intOf i).toNat)
    case atStart => exact ⟨0, 7, Nat.zero_le _, rfl, rfl, by decide, rfl⟩
    case round =>
      obtain ⟨k, N, hk, rfl, rfl, hN, hz⟩ := hrel
      by_cases hlt : k < x.size
      · have HZ : Hid (x.data.toList.foldl digS 7 = (x.data.toList.drop (k + 1)).foldl digS (digS N x[k])) := by
          unfold Hid; rw [hz.out, drop_cons (bytes_at x k hlt)]; rfl
        have hb := x[k].toNat_lt
        have hl := digS_lt N x[k]
        go_wp2
        go_round
        case rel => exact ⟨k + 1, digS N x[k], by omega, by go_num, by (unfold digS; first | rfl | (push_cast; rfl)), hl, HZ⟩
        case measure => simp [intOf]; omega
      · obtain rfl : k = x.size := by omega
        have hd : x.data.toList.foldl digS 7 = N := by rw [hz.out, drop_nil (by simp)]; rfl
        go_wp2
        go_ret
        exact ⟨ret_int (by rw [HF.out, hd]), rfl⟩
set_option maxRecDepth 100000 in
set_option maxHeartbeats 1000000 in
theorem spec_SealAfter (s m : Int) (x : ByteArray) (w : World) (hx : x.size ≤ 9223372036854775807) : Calls Tryd.prog 83 #[.int .i64 s, .int .i64 m, .string x] w fun e w' => e = .returned (.int .i64 (sealB s m x)) ∧ w = w' := by
  obtain ⟨d, hd⟩ : ∃ d, d = digest x := ⟨_, rfl⟩
  have hbd := digest_bd x
  have cD := Lib.hid (spec_DigestOf x w hx)
  have HS : Hid (sealB s m x = if inB s 0 1000002 && (inB m 0 1000000 && decide (0 ≤ d)) then (s * 1009 + m * 31 + d) % 1000003 else -1) := by unfold Hid sealB; rw [hd]
  rw [← hd] at hbd cD
  clear hd
  have c1 := Lib.hid (fun w => spec_l01In s 0 1000002 w)
  have c2 := Lib.hid (fun w => spec_l01In m 0 1000000 w)
  cases h1 : inB s 0 1000002
  case false =>
    rw [h1] at HS c1
    clear h1
    go_enter Tryd.func83, Tryd.ntmps83
    go_wp2_with (first | (go_at_call 99; refine cD.out.mono ?_; rintro e w1 ⟨rfl, rfl⟩) | (go_at_call 43; with_reducible refine (c1.out _).mono ?_; rintro e w1 ⟨rfl, rfl⟩))
    go_ret
    exact ⟨ret_int (by rw [HS.out]; rfl), rfl⟩
  have hs0 : 0 ≤ s ∧ s ≤ 1000002 := by simpa [inB] using h1
  cases h2 : inB m 0 1000000
  case false =>
    rw [h1] at HS c1
    rw [h2] at HS c2
    clear h1 h2
    go_enter Tryd.func83, Tryd.ntmps83
    go_wp2_with (first | (go_at_call 99; refine cD.out.mono ?_; rintro e w1 ⟨rfl, rfl⟩) | (go_at_call 43; with_reducible refine (c1.out _).mono ?_; rintro e w1 ⟨rfl, rfl⟩) | (go_at_call 43; with_reducible refine (c2.out _).mono ?_; rintro e w1 ⟨rfl, rfl⟩))
    go_ret
    exact ⟨ret_int (by rw [HS.out]; rfl), rfl⟩
  have hm0 : 0 ≤ m ∧ m ≤ 1000000 := by simpa [inB] using h2
  rw [h1] at HS c1
  rw [h2] at HS c2
  clear h1 h2
  obtain ⟨t, ht⟩ : ∃ t, t = decide (0 ≤ d) := ⟨_, rfl⟩
  rw [← ht] at HS
  cases t
  all_goals
    first | (have h3 : d < 0 := by simpa using ht.symm) | (have h3 : 0 ≤ d := by simpa using ht.symm)
    clear ht
    obtain ⟨s0, s1⟩ := hs0
    obtain ⟨m0, m1⟩ := hm0
    obtain ⟨d0, d1⟩ := hbd
    go_enter Tryd.func83, Tryd.ntmps83
    go_wp2_with (first | (go_at_call 99; refine cD.out.mono ?_; rintro e w1 ⟨rfl, rfl⟩) | (go_at_call 43; with_reducible refine (c1.out _).mono ?_; rintro e w1 ⟨rfl, rfl⟩) | (go_at_call 43; with_reducible refine (c2.out _).mono ?_; rintro e w1 ⟨rfl, rfl⟩))
    go_ret
    exact ⟨ret_int (by rw [HS.out]; rfl), rfl⟩
set_option maxRecDepth 100000 in
set_option maxHeartbeats 4000000 in
theorem spec_FirstBroken (A : Option Addr) (n c : Nat) (rs : List GEntry) (w : World) (hx : Rd w 3 A n (rs.flatMap GEntry.enc)) :
    Calls Tryd.prog 63 #[.slice A n c] w fun e w' => e = .returned (.int .i64 (brokenI rs)) ∧ Ext w w' := by
  have hn := hx.2.1
  have hl := Lib.hid (hx.len GEntry.len (by omega))
  have HX := Lib.hid hx
  clear hx
  go_enter Tryd.func63, Tryd.ntmps63
  go_wp2_with fail
  go_loopw [3, 4] (fun s i wr => ∃ (k : Nat) (z : Int), k ≤ n ∧ i = .int .i64 k ∧ s = .int .i64 z ∧ Hid (brokenI rs = brokF z (prevM rs k) k (rs.drop k)) ∧ Ext w wr) (fun _ i _ => n - (intOf i).toNat)
  case atStart => exact ⟨0, 1, Nat.zero_le _, rfl, rfl, rfl, Ext.refl _⟩
  case round =>
    obtain ⟨k, z, hk, rfl, rfl, hz, hb⟩ := hrel
    by_cases hlt : k < n
    case neg =>
      obtain rfl : k = n := by omega
      go_wp2_with fail
      go_ret
      exact ⟨ret_int (by rw [hz.out, drop_nil (by rw [hl.out]; omega)]; rfl), hb⟩
    obtain ⟨b, off, x, rfl, hbs, hxk, p0, p1, p2⟩ := GEntry.at_ (HX.out.keep hb) hlt
    have HD := Lib.hid (drop_cons hxk)
    have HP : Hid (prevM rs (k + 1) = some x.m) := by unfold Hid; show (rs[k]?).map (·.m) = some x.m; rw [hxk]; rfl
    obtain ⟨y, hy⟩ : ∃ y, y = sealB z x.m x.x := ⟨_, rfl⟩
    have cS := Lib.hid (fun w => spec_SealAfter z x.m x.x w x.h)
    rw [← hy] at cS
    have HF : Hid (∀ t, (decide (y < 0) || ((y != x.s) || early (prevM rs k) x.m)) = t → brokenI rs = if t then (k : Int) else brokF x.s (some x.m) (k + 1) (rs.drop (k + 1))) := by
      unfold Hid; intro t ht; rw [hz.out, HD.out, brokF, ← hy, ht]
    obtain ⟨wd, hwd⟩ : ∃ wd, wd = wr.alloc (.cells #[.int .i64 x.m, .string x.x, .int .i64 x.s] 51) := ⟨_, rfl⟩
    obtain ⟨hEd, hsd, q0, q1, q2⟩ := box3 wr _ _ _ _ wd hwd
    have HBd := Lib.hid (hb.trans hEd)
    have Hwd := Lib.hid hwd
    clear hwd hy
    have i0 : (0 : Int) ≤ (k : Int) := by omega
    by_cases c1 : y < 0
    case pos =>
      have HT := Lib.hid (HF.out true (by simp [c1]))
      have d1 : decide (y < 0) = true := by simpa using c1
      clear hb hxk hEd
      go_wp2_with fail
      rw [← Hwd.out]
      refine (cS.out _).mono ?_
      rintro e w3 ⟨rfl, rfl⟩
      go_wp2_with fail
      go_quiet (fail)
      go_wp2_with fail
      go_ret
      exact ⟨ret_int (by rw [HT.out]; rfl), HBd.out.drewN _⟩
    have d1 : decide (y < 0) = false := by simpa using c1
    cases c2 : (y != x.s)
    case true =>
      have HT := Lib.hid (HF.out true (by simp [c2]))
      clear hb hxk hEd
      go_wp2_with fail
      rw [← Hwd.out]
      refine (cS.out _).mono ?_
      rintro e w3 ⟨rfl, rfl⟩
      go_wp2_with fail
      go_quiet (fail)
      go_wp2_with fail
      go_ret
      exact ⟨ret_int (by rw [HT.out]; rfl), HBd.out.drewN _⟩
    case false =>
    have HC2 := Lib.hid c2
    by_cases hk0 : k = 0
    case pos =>
      subst hk0
      simp only [Nat.zero_mul, Nat.add_zero] at p0 p1 p2
      have HT := Lib.hid (HF.out false (by simp [d1, c2, prevM, early]))
      clear hb hxk hEd
      go_wp2_with fail
      rw [← Hwd.out]
      refine (cS.out _).mono ?_
      rintro e w3 ⟨rfl, rfl⟩
      go_wp2_with fail
      go_quiet (fail)
      go_wp2_with fail
      go_roundw
      case rel => exact ⟨1, x.s, by omega, by first | rfl | go_num, rfl, by unfold Hid; rw [HT.out, HP.out]; rfl, HBd.out.drewN _⟩
      case measure => simp [intOf]; omega
    obtain ⟨b', off', x', hA, hbs', hxk', p0', -, -⟩ := GEntry.at_ (HX.out.keep hb) (show k - 1 < n by omega)
    injection hA with hA
    injection hA with hA1 hA2
    subst hA1 hA2
    have hpr : prevM rs k = some x'.m := by
      obtain ⟨j, rfl⟩ : ∃ j, k = j + 1 := ⟨k - 1, by omega⟩
      rw [Nat.add_sub_cancel] at hxk'
      show (rs[j]?).map (·.m) = some x'.m
      rw [hxk']; rfl
    have dk : decide ((0 : Int) < (k : Int)) = true := by simp; omega
    have dkn : decide (0 < k) = true := by simp; omega
    have ew : IntKind.i64.wrap ((k : Int) - 1) = (k : Int) - 1 := IntWalk.i64_in _ (by omega)
    have i1 : (0 : Int) ≤ (k : Int) - 1 := by omega
    have i4 : (1 : Int) ≤ (k : Int) := by omega
    have i2 : (k : Int) - 1 < (n : Int) := by omega
    have i3 : ((k : Int) - 1).toNat = k - 1 := by omega
    have q3 := (hEd.cellAt b (by omega) _).trans p0'
    cases c3 : decide (x.m < x'.m)
    case true =>
      have HT := Lib.hid (HF.out true (by simp [d1, c2, hpr, early, c3]))
      have c3' : x.m < x'.m := by simpa using c3
      clear hb hxk hEd hxk' hpr
      go_wp2_with fail
      rw [← Hwd.out]
      refine (cS.out _).mono ?_
      rintro e w3 ⟨rfl, rfl⟩
      go_wp2_with fail
      go_quiet (fail)
      go_wp2_with fail
      go_ret
      exact ⟨ret_int (by rw [HT.out]; rfl), HBd.out.drewN _⟩
    case false =>
      have HT := Lib.hid (HF.out false (by simp [d1, c2, hpr, early, c3]))
      clear hb hxk hEd hxk' hpr
      go_wp2_with fail
      rw [← Hwd.out]
      refine (cS.out _).mono ?_
      rintro e w3 ⟨rfl, rfl⟩
      go_wp2_with fail
      go_quiet (fail)
      clear ew i3
      go_wp2_with fail
      go_roundw
      case rel => exact ⟨k + 1, x.s, by omega, by go_num, rfl, by unfold Hid; rw [HT.out, HP.out]; rfl, HBd.out.drewN _⟩
      case measure => simp [intOf]; omega
set_option maxRecDepth 100000 in
set_option maxHeartbeats 1000000 in
theorem spec_IsSealed (A : Option Addr) (n c : Nat) (rs : List GEntry) (w : World) (hx : Rd w 3 A n (rs.flatMap GEntry.enc)) :
    Calls Tryd.prog 44 #[.slice A n c] w fun e w' => e = .returned (.bool (sealedB rs)) ∧ Ext w w' := by
  have hn := hx.2.1
  have hl := Lib.hid (hx.len GEntry.len (by omega))
  have HS : Hid (sealedB rs = (decide (n ≤ 30) && (brokenI rs == -1))) := by unfold Hid sealedB; rw [hl.out]
  have cB := Lib.hid (spec_FirstBroken A n c rs w hx)
  have hbd := brokF_bd rs 1 none 0
  obtain ⟨z, hz⟩ : ∃ z, z = brokenI rs := ⟨_, rfl⟩
  have hz1 : -1 ≤ z := by rw [hz]; exact hbd.1
  rw [← hz] at HS cB
  clear hz hbd hx
  by_cases h3 : n ≤ 30
  case neg =>
    go_enter Tryd.func44, Tryd.ntmps44
    go_wp2_with fail
    go_ret
    exact ⟨ret_bool (by rw [HS.out]; simp [h3]), Ext.refl _⟩
  case pos =>
    by_cases hzz : z = -1
    · have e1 : (z == -1) = true := by simpa using hzz
      have e2 : z < 0 := by omega
      clear hzz
      go_enter Tryd.func44, Tryd.ntmps44
      go_wp2_with fail
      refine cB.out.mono ?_
      rintro e w1 ⟨rfl, he1⟩
      have HE1 := Lib.hid he1
      clear he1
      go_wp2_with fail
      go_ret
      exact ⟨ret_bool (by rw [HS.out, e1]; simp [h3, e2]), HE1.out⟩
    · have e1 : (z == -1) = false := by simpa using hzz
      have e2 : ¬ z < 0 := by omega
      clear hzz
      go_enter Tryd.func44, Tryd.ntmps44
      go_wp2_with fail
      refine cB.out.mono ?_
      rintro e w1 ⟨rfl, he1⟩
      have HE1 := Lib.hid he1
      clear he1
      go_wp2_with fail
      go_ret
      exact ⟨ret_bool (by rw [HS.out, e1]; simp [e2]), HE1.out⟩
set_option maxRecDepth 100000 in
set_option maxHeartbeats 1000000 in
theorem impl_DigestOf (x : ByteArray) (w : World) (hx : x.size ≤ 9223372036854775807) : Calls Tryd.prog 103 #[.string x] w fun e w' => e = .returned (.int .i64 (digest x)) ∧ w = w' := by
  by_cases h2 : x.size ≤ 200
  case neg =>
    have HF : Hid (digest x = -1) := by unfold Hid digest; rw [if_neg h2]
    go_enter Tryd.func103, Tryd.ntmps103
    go_wp2
    go_ret
    exact ⟨ret_int (by rw [HF.out]), rfl⟩
  case pos =>
    have HF : Hid (digest x = (x.data.toList.foldl digS 7 : Nat)) := by unfold Hid digest; rw [if_pos h2]; rfl
    go_enter Tryd.func103, Tryd.ntmps103
    go_wp2
    go_loop [3, 4] (fun n i => ∃ k N : Nat, k ≤ x.size ∧ i = .int .i64 k ∧ n = .int .i64 (N : Int) ∧ N < 1000003 ∧ Hid (x.data.toList.foldl digS 7 = (x.data.toList.drop k).foldl digS N)) (fun _ i => x.size - (intOf i).toNat)
    case atStart => exact ⟨0, 7, Nat.zero_le _, rfl, rfl, by decide, rfl⟩
    case round =>
      obtain ⟨k, N, hk, rfl, rfl, hN, hz⟩ := hrel
      by_cases hlt : k < x.size
      · have HZ : Hid (x.data.toList.foldl digS 7 = (x.data.toList.drop (k + 1)).foldl digS (digS N x[k])) := by
          unfold Hid; rw [hz.out, drop_cons (bytes_at x k hlt)]; rfl
        have hb := x[k].toNat_lt
        have hl := digS_lt N x[k]
        go_wp2
        go_round
        case rel => exact ⟨k + 1, digS N x[k], by omega, by go_num, by (unfold digS; first | rfl | (push_cast; rfl)), hl, HZ⟩
        case measure => simp [intOf]; omega
      · obtain rfl : k = x.size := by omega
        have hd : x.data.toList.foldl digS 7 = N := by rw [hz.out, drop_nil (by simp)]; rfl
        go_wp2
        go_ret
        exact ⟨ret_int (by rw [HF.out, hd]), rfl⟩
set_option maxRecDepth 100000 in
set_option maxHeartbeats 1000000 in
theorem impl_SealAfter (s m : Int) (x : ByteArray) (w : World) (hx : x.size ≤ 9223372036854775807) : Calls Tryd.prog 85 #[.int .i64 s, .int .i64 m, .string x] w fun e w' => e = .returned (.int .i64 (sealB s m x)) ∧ w = w' := by
  obtain ⟨d, hd⟩ : ∃ d, d = digest x := ⟨_, rfl⟩
  have hbd := digest_bd x
  have cD := Lib.hid (impl_DigestOf x w hx)
  have HS : Hid (sealB s m x = if inB s 0 1000002 && (inB m 0 1000000 && decide (0 ≤ d)) then (s * 1009 + m * 31 + d) % 1000003 else -1) := by unfold Hid sealB; rw [hd]
  rw [← hd] at hbd cD
  clear hd
  have c1 := Lib.hid (fun w => impl_between s 0 1000002 w)
  have c2 := Lib.hid (fun w => impl_between m 0 1000000 w)
  cases h1 : inB s 0 1000002
  case false =>
    rw [h1] at HS c1
    clear h1
    go_enter Tryd.func85, Tryd.ntmps85
    go_wp2_with (first | (go_at_call 103; refine cD.out.mono ?_; rintro e w1 ⟨rfl, rfl⟩) | (go_at_call 50; with_reducible refine (c1.out _).mono ?_; rintro e w1 ⟨rfl, rfl⟩))
    go_ret
    exact ⟨ret_int (by rw [HS.out]; rfl), rfl⟩
  have hs0 : 0 ≤ s ∧ s ≤ 1000002 := by simpa [inB] using h1
  cases h2 : inB m 0 1000000
  case false =>
    rw [h1] at HS c1
    rw [h2] at HS c2
    clear h1 h2
    go_enter Tryd.func85, Tryd.ntmps85
    go_wp2_with (first | (go_at_call 103; refine cD.out.mono ?_; rintro e w1 ⟨rfl, rfl⟩) | (go_at_call 50; with_reducible refine (c1.out _).mono ?_; rintro e w1 ⟨rfl, rfl⟩) | (go_at_call 50; with_reducible refine (c2.out _).mono ?_; rintro e w1 ⟨rfl, rfl⟩))
    go_ret
    exact ⟨ret_int (by rw [HS.out]; rfl), rfl⟩
  have hm0 : 0 ≤ m ∧ m ≤ 1000000 := by simpa [inB] using h2
  rw [h1] at HS c1
  rw [h2] at HS c2
  clear h1 h2
  obtain ⟨t, ht⟩ : ∃ t, t = decide (0 ≤ d) := ⟨_, rfl⟩
  rw [← ht] at HS
  cases t
  all_goals
    first | (have h3 : d < 0 := by simpa using ht.symm) | (have h3 : 0 ≤ d := by simpa using ht.symm)
    clear ht
    obtain ⟨s0, s1⟩ := hs0
    obtain ⟨m0, m1⟩ := hm0
    obtain ⟨d0, d1⟩ := hbd
    go_enter Tryd.func85, Tryd.ntmps85
    go_wp2_with (first | (go_at_call 103; refine cD.out.mono ?_; rintro e w1 ⟨rfl, rfl⟩) | (go_at_call 50; with_reducible refine (c1.out _).mono ?_; rintro e w1 ⟨rfl, rfl⟩) | (go_at_call 50; with_reducible refine (c2.out _).mono ?_; rintro e w1 ⟨rfl, rfl⟩))
    go_ret
    exact ⟨ret_int (by rw [HS.out]; rfl), rfl⟩
set_option maxRecDepth 100000 in
set_option maxHeartbeats 4000000 in
theorem impl_FirstBroken (A : Option Addr) (n c : Nat) (rs : List GEntry) (w : World) (hx : Rd w 3 A n (rs.flatMap GEntry.enc)) :
    Calls Tryd.prog 67 #[.slice A n c] w fun e w' => e = .returned (.int .i64 (brokenI rs)) ∧ Ext w w' := by
  have hn := hx.2.1
  have hl := Lib.hid (hx.len GEntry.len (by omega))
  have HX := Lib.hid hx
  clear hx
  go_enter Tryd.func67, Tryd.ntmps67
  go_wp2_with fail
  go_loopw [3, 9] (fun s i wr => ∃ (k : Nat) (z : Int), k ≤ n ∧ i = .int .i64 k ∧ s = .int .i64 z ∧ Hid (brokenI rs = brokF z (prevM rs k) k (rs.drop k)) ∧ Ext w wr) (fun _ i _ => n - (intOf i).toNat)
  case atStart => exact ⟨0, 1, Nat.zero_le _, rfl, rfl, rfl, Ext.refl _⟩
  case round =>
    obtain ⟨k, z, hk, rfl, rfl, hz, hb⟩ := hrel
    by_cases hlt : k < n
    case neg =>
      obtain rfl : k = n := by omega
      go_wp2_with fail
      go_ret
      exact ⟨ret_int (by rw [hz.out, drop_nil (by rw [hl.out]; omega)]; rfl), hb⟩
    obtain ⟨b, off, x, rfl, hbs, hxk, p0, p1, p2⟩ := GEntry.at_ (HX.out.keep hb) hlt
    have HD := Lib.hid (drop_cons hxk)
    have HP : Hid (prevM rs (k + 1) = some x.m) := by unfold Hid; show (rs[k]?).map (·.m) = some x.m; rw [hxk]; rfl
    obtain ⟨y, hy⟩ : ∃ y, y = sealB z x.m x.x := ⟨_, rfl⟩
    have cS := Lib.hid (fun w => impl_SealAfter z x.m x.x w x.h)
    rw [← hy] at cS
    have HF : Hid (∀ t, (decide (y < 0) || ((y != x.s) || early (prevM rs k) x.m)) = t → brokenI rs = if t then (k : Int) else brokF x.s (some x.m) (k + 1) (rs.drop (k + 1))) := by
      unfold Hid; intro t ht; rw [hz.out, HD.out, brokF, ← hy, ht]
    obtain ⟨wd, hwd⟩ : ∃ wd, wd = wr.alloc (.cells #[.int .i64 x.m, .string x.x, .int .i64 x.s] 51) := ⟨_, rfl⟩
    obtain ⟨hEd, hsd, q0, q1, q2⟩ := box3 wr _ _ _ _ wd hwd
    have HBd := Lib.hid (hb.trans hEd)
    have Hwd := Lib.hid hwd
    clear hwd hy
    have i0 : (0 : Int) ≤ (k : Int) := by omega
    by_cases c1 : y < 0
    case pos =>
      have HT := Lib.hid (HF.out true (by simp [c1]))
      have d1 : decide (y < 0) = true := by simpa using c1
      clear hb hxk hEd
      go_wp2_with fail
      rw [← Hwd.out]
      refine (cS.out _).mono ?_
      rintro e w3 ⟨rfl, rfl⟩
      go_wp2_with fail
      go_quiet (fail)
      go_wp2_with fail
      go_ret
      exact ⟨ret_int (by rw [HT.out]; rfl), HBd.out.drewN _⟩
    have d1 : decide (y < 0) = false := by simpa using c1
    cases c2 : (y != x.s)
    case true =>
      have HT := Lib.hid (HF.out true (by simp [c2]))
      clear hb hxk hEd
      go_wp2_with fail
      rw [← Hwd.out]
      refine (cS.out _).mono ?_
      rintro e w3 ⟨rfl, rfl⟩
      go_wp2_with fail
      go_quiet (fail)
      go_wp2_with fail
      go_ret
      exact ⟨ret_int (by rw [HT.out]; rfl), HBd.out.drewN _⟩
    case false =>
    have HC2 := Lib.hid c2
    by_cases hk0 : k = 0
    case pos =>
      subst hk0
      simp only [Nat.zero_mul, Nat.add_zero] at p0 p1 p2
      have HT := Lib.hid (HF.out false (by simp [d1, c2, prevM, early]))
      clear hb hxk hEd
      go_wp2_with fail
      rw [← Hwd.out]
      refine (cS.out _).mono ?_
      rintro e w3 ⟨rfl, rfl⟩
      go_wp2_with fail
      go_quiet (fail)
      go_wp2_with fail
      go_roundw
      case rel => exact ⟨1, x.s, by omega, by first | rfl | go_num, rfl, by unfold Hid; rw [HT.out, HP.out]; rfl, HBd.out.drewN _⟩
      case measure => simp [intOf]; omega
    obtain ⟨b', off', x', hA, hbs', hxk', p0', -, -⟩ := GEntry.at_ (HX.out.keep hb) (show k - 1 < n by omega)
    injection hA with hA
    injection hA with hA1 hA2
    subst hA1 hA2
    have hpr : prevM rs k = some x'.m := by
      obtain ⟨j, rfl⟩ : ∃ j, k = j + 1 := ⟨k - 1, by omega⟩
      rw [Nat.add_sub_cancel] at hxk'
      show (rs[j]?).map (·.m) = some x'.m
      rw [hxk']; rfl
    have dk : decide ((0 : Int) < (k : Int)) = true := by simp; omega
    have dkn : decide (0 < k) = true := by simp; omega
    have ew : IntKind.i64.wrap ((k : Int) - 1) = (k : Int) - 1 := IntWalk.i64_in _ (by omega)
    have i1 : (0 : Int) ≤ (k : Int) - 1 := by omega
    have i4 : (1 : Int) ≤ (k : Int) := by omega
    have i2 : (k : Int) - 1 < (n : Int) := by omega
    have i3 : ((k : Int) - 1).toNat = k - 1 := by omega
    have q3 := (hEd.cellAt b (by omega) _).trans p0'
    cases c3 : decide (x.m < x'.m)
    case true =>
      have HT := Lib.hid (HF.out true (by simp [d1, c2, hpr, early, c3]))
      have c3' : x.m < x'.m := by simpa using c3
      clear hb hxk hEd hxk' hpr
      go_wp2_with fail
      rw [← Hwd.out]
      refine (cS.out _).mono ?_
      rintro e w3 ⟨rfl, rfl⟩
      go_wp2_with fail
      go_quiet (fail)
      go_wp2_with fail
      go_ret
      exact ⟨ret_int (by rw [HT.out]; rfl), HBd.out.drewN _⟩
    case false =>
      have HT := Lib.hid (HF.out false (by simp [d1, c2, hpr, early, c3]))
      clear hb hxk hEd hxk' hpr
      go_wp2_with fail
      rw [← Hwd.out]
      refine (cS.out _).mono ?_
      rintro e w3 ⟨rfl, rfl⟩
      go_wp2_with fail
      go_quiet (fail)
      clear ew i3
      go_wp2_with fail
      go_roundw
      case rel => exact ⟨k + 1, x.s, by omega, by go_num, rfl, by unfold Hid; rw [HT.out, HP.out]; rfl, HBd.out.drewN _⟩
      case measure => simp [intOf]; omega
set_option maxRecDepth 100000 in
set_option maxHeartbeats 1000000 in
theorem impl_IsSealed (A : Option Addr) (n c : Nat) (rs : List GEntry) (w : World) (hx : Rd w 3 A n (rs.flatMap GEntry.enc)) :
    Calls Tryd.prog 51 #[.slice A n c] w fun e w' => e = .returned (.bool (sealedB rs)) ∧ Ext w w' := by
  have hn := hx.2.1
  have hl := Lib.hid (hx.len GEntry.len (by omega))
  have HS : Hid (sealedB rs = (decide (n ≤ 30) && (brokenI rs == -1))) := by unfold Hid sealedB; rw [hl.out]
  have cB := Lib.hid (impl_FirstBroken A n c rs w hx)
  have hbd := brokF_bd rs 1 none 0
  obtain ⟨z, hz⟩ : ∃ z, z = brokenI rs := ⟨_, rfl⟩
  have hz1 : -1 ≤ z := by rw [hz]; exact hbd.1
  rw [← hz] at HS cB
  clear hz hbd hx
  by_cases h3 : n ≤ 30
  case neg =>
    go_enter Tryd.func51, Tryd.ntmps51
    go_wp2_with fail
    go_ret
    exact ⟨ret_bool (by rw [HS.out]; simp [h3]), Ext.refl _⟩
  case pos =>
    by_cases hzz : z = -1
    · have e1 : (z == -1) = true := by simpa using hzz
      have e2 : z < 0 := by omega
      clear hzz
      go_enter Tryd.func51, Tryd.ntmps51
      go_wp2_with fail
      refine cB.out.mono ?_
      rintro e w1 ⟨rfl, he1⟩
      have HE1 := Lib.hid he1
      clear he1
      go_wp2_with fail
      go_ret
      exact ⟨ret_bool (by rw [HS.out, e1]; simp [h3, e2]), HE1.out⟩
    · have e1 : (z == -1) = false := by simpa using hzz
      have e2 : ¬ z < 0 := by omega
      clear hzz
      go_enter Tryd.func51, Tryd.ntmps51
      go_wp2_with fail
      refine cB.out.mono ?_
      rintro e w1 ⟨rfl, he1⟩
      have HE1 := Lib.hid he1
      clear he1
      go_wp2_with fail
      go_ret
      exact ⟨ret_bool (by rw [HS.out, e1]; simp [e2]), HE1.out⟩
end Go.Proofs.YtkelmeemblmggaaDoor
