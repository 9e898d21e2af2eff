/- The walk of the law on MuseumOk; no condition. -/
import Derived.Test.YtcmbjkidgemdaaaSM2
import Derived.Test.YtcmbjkidgemdaaaH6
namespace Go.Proofs.Ytcmbjkidgemdaaa
set_option linter.unusedSimpArgs false
set_option linter.unusedVariables false
open Go.RowKit Go.Sort
theorem bulk_bd {v : MV} {m : GMuseum} (h : bulkM v m ≤ 1048576) : v.sd.n ≤ 1048576 ∧ v.sf.n ≤ 1048576 ∧ v.sp.n ≤ 1048576 ∧ v.sg.n ≤ 1048576 ∧ v.sr.n ≤ 1048576 := by
  have := bulkE_nn m.rs
  unfold bulkM at h
  omega
/-- The cells of a box in a world, told again. -/
def MCells (w : World) (b : Nat) (v : MV) : Prop := w.cell? ⟨b, 0, none⟩ = some (.int .i64 v.H) ∧ w.cell? ⟨b, 1, none⟩ = some (.slice v.sd.A v.sd.n v.sd.c) ∧ w.cell? ⟨b, 2, none⟩ = some (.slice v.sf.A v.sf.n v.sf.c) ∧ w.cell? ⟨b, 3, none⟩ = some (.slice v.sp.A v.sp.n v.sp.c) ∧ w.cell? ⟨b, 4, none⟩ = some (.slice v.sg.A v.sg.n v.sg.c) ∧ w.cell? ⟨b, 5, none⟩ = some (.int .i64 v.d) ∧ w.cell? ⟨b, 6, none⟩ = some (.slice v.sr.A v.sr.n v.sr.c)
theorem MBox.cells {w : World} {b : Nat} {v : MV} (h : MBox w b v) : MCells w b v := ⟨h.c0, h.c1, h.c2, h.c3, h.c4, h.c5, h.c6⟩
set_option maxRecDepth 100000 in
set_option maxHeartbeats 4000000 in
theorem law_MuseumOk (v : MV) (m : GMuseum) (w : World) (hx : MRd w v m) : Calls Try.prog 13 #[v.val] w fun e w' => e = .returned (.bool true) ∧ Ext w w' := by
  obtain ⟨wb, hwb⟩ : ∃ wb, wb = w.alloc (.cells v.cells 69) := ⟨_, rfl⟩
  have hbx := MBox.new hwb
  have hE : Ext w wb := by rw [hwb]; exact (Ext.refl w).alloc _
  have HX := Lib.hid (hx.keep hE)
  have cZ := Lib.hid (laws_szMuseum v m 1048576 wb HX.out (by omega) (by omega))
  have hbd : Hid (bulkM v m ≤ 1048576 → v.sd.n ≤ 1048576 ∧ v.sf.n ≤ 1048576 ∧ v.sp.n ≤ 1048576 ∧ v.sg.n ≤ 1048576 ∧ v.sr.n ≤ 1048576) := bulk_bd
  have cT := Lib.hid (fun W (he : Ext wb W) a b c d f => laws_toMuseum v m W (HX.out.keep he) a b c d f)
  obtain ⟨bk, hbk⟩ : ∃ bk, bk = bulkM v m := ⟨_, rfl⟩
  rw [← hbk] at cZ hbd
  obtain ⟨Hh, ⟨A0, n0, c0⟩, ⟨A1, n1, c1⟩, ⟨A2, n2, c2⟩, ⟨A3, n3, c3⟩, day, ⟨A4, n4, c4⟩⟩ := v
  have HE := Lib.hid hE
  have Hwb : Hid (wb = w.alloc (.cells #[.int .i64 Hh, .slice A0 n0 c0, .slice A1 n1 c1, .slice A2 n2 c2, .slice A3 n3 c3, .int .i64 day, .slice A4 n4 c4] 69)) := hwb
  have HB := Lib.hid hbx
  have hbl := hbx.lt
  have hsb : w.heap.size + 1 ≤ wb.heap.size := by rw [hwb]; simp
  clear hE hwb hbx hx hbk
  show Calls Try.prog 13 #[.agg #[.int .i64 Hh, .slice A0 n0 c0, .slice A1 n1 c1, .slice A2 n2 c2, .slice A3 n3 c3, .int .i64 day, .slice A4 n4 c4]] w _
  obtain ⟨b0, b1, b2, b3, b4, b5, b6⟩ := HB.out.cells
  simp only at b0 b1 b2 b3 b4 b5 b6
  by_cases q : bk ≤ 1048576
  case neg =>
    rw [if_pos (by omega)] at cZ
    go_enter Try.func13, Try.ntmps13
    go_wp2_with fail
    rw [← Hwb.out]
    refine cZ.out.mono ?_
    rintro e w1 ⟨rfl, h1⟩
    have HE1 := Lib.hid h1
    clear h1 b0 b1 b2 b3 b4 b5 b6
    go_wp2_with fail
    go_ret
    exact ⟨rfl, HE.out.trans HE1.out⟩
  rw [if_neg (by omega)] at cZ
  obtain ⟨d0, d1, d2, d3, d4⟩ := hbd.out q
  simp only at d0 d1 d2 d3 d4
  have hnb : ¬ (1048576 - bk < 0) := by omega
  go_enter Try.func13, Try.ntmps13
  go_wp2_with fail
  rw [← Hwb.out]
  refine cZ.out.mono ?_
  rintro e w1 ⟨rfl, e1⟩
  clear b0 b1 b2 b3 b4 b5 b6
  obtain ⟨b0, b1, b2, b3, b4, b5, b6⟩ := (HB.out.keep e1).cells
  simp only at b0 b1 b2 b3 b4 b5 b6
  go_wp2_with fail
  refine (cT.out _ e1 d0 d1 d2 d3 d4).mono ?_
  rintro e w2 ⟨gd, gf, gp, gg, gr, he, h2, o2⟩
  simp only [MV.val, MV.cells] at he
  subst he
  have e2 := e1.trans h2
  have cM := Lib.hid (spec_MuseumOk _ m w2 o2.rd)
  clear h2 o2 e1 b0 b1 b2 b3 b4 b5 b6
  go_wp2_with fail
  refine cM.out.mono ?_
  rintro e w3 ⟨rfl, h3⟩
  have e3 := e2.trans h3
  obtain ⟨b0, b1, b2, b3, b4, b5, b6⟩ := (HB.out.keep e3).cells
  simp only at b0 b1 b2 b3 b4 b5 b6
  clear h3 e2
  go_wp2_with fail
  refine (cT.out _ e3 d0 d1 d2 d3 d4).mono ?_
  rintro e w4 ⟨xd, xf, xp, xg, xr, he, h4, o4⟩
  simp only [MV.val, MV.cells] at he
  subst he
  have e4 := e3.trans h4
  clear h4 e3 b0 b1 b2 b3 b4 b5 b6 cM
  obtain ⟨W, hW⟩ : ∃ W, W = w4.alloc (.cells (MV.cells ⟨Hh, ⟨some ⟨xd, 0, none⟩, n0, n0⟩, ⟨some ⟨xf, 0, none⟩, n1, n1⟩, ⟨some ⟨xp, 0, none⟩, n2, n2⟩, ⟨some ⟨xg, 0, none⟩, n3, n3⟩, day, ⟨some ⟨xr, 0, none⟩, n4, n4⟩⟩) 74) := ⟨_, rfl⟩
  have hxb := MBox.new hW
  have e5 : Ext wb W := by rw [hW]; exact e4.alloc _
  have o5 : MRd W _ m := o4.rd.keep (by rw [hW]; exact (Ext.refl _).alloc _)
  have hW' : Hid (W = w4.alloc (.cells #[.int .i64 Hh, .slice (some ⟨xd, 0, none⟩) n0 n0, .slice (some ⟨xf, 0, none⟩) n1 n1, .slice (some ⟨xp, 0, none⟩) n2 n2, .slice (some ⟨xg, 0, none⟩) n3 n3, .int .i64 day, .slice (some ⟨xr, 0, none⟩) n4 n4] 74)) := hW
  have l4 := hxb.lt
  have HXB := Lib.hid hxb
  have HO5 := Lib.hid o5
  have hg4 : wb.heap.size ≤ w4.heap.size := e4.size
  clear o4 hW hxb o5 e4
  obtain ⟨x0, x1, x2, x3, x4, x5, x6⟩ := HXB.out.cells
  simp only at x0 x1 x2 x3 x4 x5 x6
  rw [hW'.out] at x0 x1 x2 x3 x4 x5 x6
  go_wp2_with fail
  rw [← hW'.out]
  have cI := Lib.hid (impl_MuseumOk _ m W HO5.out)
  refine cI.out.mono ?_
  rintro e w6 ⟨rfl, h6⟩
  have e6 := e5.trans h6
  have hb6 := HB.out.keep e6
  have hx6 := HXB.out.keep h6
  have E6 := Lib.hid h6
  clear h6 e5 x0 x1 x2 x3 x4 x5 x6 cI
  obtain ⟨b0, b1, b2, b3, b4, b5, b6⟩ := hb6.cells
  obtain ⟨x0, x1, x2, x3, x4, x5, x6⟩ := hx6.cells
  simp only at b0 b1 b2 b3 b4 b5 b6 x0 x1 x2 x3 x4 x5 x6
  have lx := hx6.lt
  have lb := hb6.lt
  have HE6 := Lib.hid e6
  clear hb6 hx6 e6
  go_wp2_with fail
  go_region_held3 (fun w' => w'.cell? ⟨w.heap.size, 0, none⟩ = some (.int .i64 Hh) ∧ w'.cell? ⟨w.heap.size, 1, none⟩ = some (.slice A0 n0 c0) ∧ w'.cell? ⟨w.heap.size, 2, none⟩ = some (.slice A1 n1 c1) ∧ w'.cell? ⟨w.heap.size, 3, none⟩ = some (.slice A2 n2 c2) ∧ w'.cell? ⟨w.heap.size, 4, none⟩ = some (.slice A3 n3 c3) ∧ w'.cell? ⟨w.heap.size, 5, none⟩ = some (.int .i64 day) ∧ w'.cell? ⟨w.heap.size, 6, none⟩ = some (.slice A4 n4 c4) ∧ w'.cell? ⟨w4.heap.size, 0, none⟩ = some (.int .i64 Hh) ∧ w'.cell? ⟨w4.heap.size, 1, none⟩ = some (.slice (some ⟨xd, 0, none⟩) n0 n0) ∧ w'.cell? ⟨w4.heap.size, 2, none⟩ = some (.slice (some ⟨xf, 0, none⟩) n1 n1) ∧ w'.cell? ⟨w4.heap.size, 3, none⟩ = some (.slice (some ⟨xp, 0, none⟩) n2 n2) ∧ w'.cell? ⟨w4.heap.size, 4, none⟩ = some (.slice (some ⟨xg, 0, none⟩) n3 n3) ∧ w'.cell? ⟨w4.heap.size, 5, none⟩ = some (.int .i64 day) ∧ w'.cell? ⟨w4.heap.size, 6, none⟩ = some (.slice (some ⟨xr, 0, none⟩) n4 n4)) (go_keep) (first
    | (go_at_call 51; refine (cT.out _ (HE6.out.trans ((Ext.refl _).drewN 1)) d0 d1 d2 d3 d4).mono ?_; rintro e w7 ⟨yd, yf, yp, yg, yr, he, h7, o7⟩; simp only [MV.val, MV.cells] at he; subst he; obtain ⟨s0, s1, s2, s3, s4, s5, s6⟩ := (HB.out.keep (HE6.out.trans (Ext.trans ((Ext.refl _).drewN 1) h7))).cells; obtain ⟨t0, t1, t2, t3, t4, t5, t6⟩ := (HXB.out.keep (E6.out.trans (Ext.trans ((Ext.refl _).drewN 1) h7))).cells; simp only at s0 s1 s2 s3 s4 s5 s6 t0 t1 t2 t3 t4 t5 t6)
    | (go_at_call 53; refine (laws_eqMuseum _ _ m _ (HO5.out.keep (E6.out.trans (Ext.trans ((Ext.refl _).drewN 1) h7))) o7.rd).mono ?_; rintro e w8 ⟨rfl, h8⟩; obtain ⟨p0, p1, p2, p3, p4, p5, p6⟩ := (HB.out.keep (HE6.out.trans ((Ext.trans ((Ext.refl _).drewN 1) h7).trans h8))).cells; obtain ⟨r0, r1, r2, r3, r4, r5, r6⟩ := (HXB.out.keep (E6.out.trans ((Ext.trans ((Ext.refl _).drewN 1) h7).trans h8))).cells; simp only at p0 p1 p2 p3 p4 p5 p6 r0 r1 r2 r3 r4 r5 r6))
  have HE8 := Lib.hid (HE6.out.trans ((Ext.trans ((Ext.refl _).drewN 1) h7).trans h8))
  clear h7 h8 o7 b0 b1 b2 b3 b4 b5 b6 x0 x1 x2 x3 x4 x5 x6 s0 s1 s2 s3 s4 s5 s6 t0 t1 t2 t3 t4 t5 t6 p0 p1 p2 p3 p4 p5 p6 r0 r1 r2 r3 r4 r5 r6
  go_wp2_with fail
  go_ret
  exact ⟨rfl, HE.out.trans HE8.out⟩
end Go.Proofs.Ytcmbjkidgemdaaa
