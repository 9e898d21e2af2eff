/- The walk of the law on NextDays; no condition. -/
import Derived.Test.YtkelmeemblmggaaSN5
import Derived.Test.YtkelmeemblmggaaH8
namespace Go.Proofs.Ytkelmeemblmggaa
set_option linter.unusedSimpArgs false
set_option linter.unusedVariables false
open Go.RowKit Go.Sort
theorem bulk_bdN {v : MV} {m : GMuseum} (h : bulkM v m ≤ 1048576) : v.sd.n ≤ 1048576 ∧ v.sf.n ≤ 1048576 ∧ v.sp.n ≤ 1048576 ∧ v.sg.n ≤ 1048576 ∧ v.sr.n ≤ 1048576 := by
  have := bulkE_nn m.rs
  unfold bulkM at h
  omega
theorem MRd.lens {w : World} {v : MV} {m : GMuseum} (h : MRd w v m) : m.ds.length = v.sd.n ∧ m.fs.length = v.sf.n ∧ m.ps.length = v.sp.n ∧ m.gs.length = v.sg.n ∧ m.rs.length = v.sr.n :=
  ⟨h.rd.len GDoor.len (by omega), h.rf.len ienc_len (by omega), h.rp.len ienc_len (by omega), h.rg.len ienc_len (by omega), h.rr.len GEntry.len (by omega)⟩
theorem markEnd_nn {v : MV} : ¬ markEnd 1 v < 0 := by unfold markEnd mk4 mk3 mk2 mk1; omega
theorem daysM_lens (m : GMuseum) (d : Int) : (daysM m d).ds.length = m.ds.length ∧ (daysM m d).fs.length = m.fs.length ∧ (daysM m d).ps.length = m.ps.length ∧ (daysM m d).gs.length = m.gs.length ∧ (daysM m d).rs.length = m.rs.length := by
  unfold daysM
  split <;> exact ⟨rfl, rfl, rfl, rfl, rfl⟩
theorem days_fit {w : World} {base : Nat} {v v' : MV} {m : GMuseum} {d : Int} (h : MOwn w base v (daysM m d)) {w' : World} (hx : MRd w' v' m) (hd : v'.sd.n ≤ 1048576) (hf : v'.sf.n ≤ 1048576) (hp : v'.sp.n ≤ 1048576) (hg : v'.sg.n ≤ 1048576) (hr : v'.sr.n ≤ 1048576) : MFit v := by
  obtain ⟨a1, a2, a3, a4, a5⟩ := h.rd.lens
  obtain ⟨b1, b2, b3, b4, b5⟩ := hx.lens
  obtain ⟨c1, c2, c3, c4, c5⟩ := daysM_lens m d
  exact MFit.of_own h (by omega) (by omega) (by omega) (by omega) (by omega)
set_option maxRecDepth 100000 in
set_option maxHeartbeats 8000000 in
theorem law_NextDays (v : MV) (m : GMuseum) (d : Int) (w : World) (hx : MRd w v m) : Calls Try.prog 5 #[v.val, .int .i64 d] w fun e w' => e = .returned (.bool true) ∧ Ext w w' := by
  obtain ⟨wb, hwb⟩ : ∃ wb, wb = w.alloc (.cells v.cells 48) := ⟨_, rfl⟩
  have hbx := MBox.new hwb
  have hE : Ext w wb := by rw [hwb]; exact (Ext.refl w).alloc _
  have HX := Lib.hid (hx.keep hE)
  have cZ := Lib.hid (laws_szMuseum v m 1048576 wb HX.out (by omega) (by omega))
  have hbd : Hid (bulkM v m ≤ 1048576 → v.sd.n ≤ 1048576 ∧ v.sf.n ≤ 1048576 ∧ v.sp.n ≤ 1048576 ∧ v.sg.n ≤ 1048576 ∧ v.sr.n ≤ 1048576) := bulk_bdN
  have cT := Lib.hid (fun W (he : Ext wb W) a b c d f => laws_toMuseum v m W (HX.out.keep he) a b c d f)
  obtain ⟨bk, hbk⟩ : ∃ bk, bk = bulkM v m := ⟨_, rfl⟩
  rw [← hbk] at cZ hbd
  obtain ⟨Hh, ⟨A0, n0, c0⟩, ⟨A1, n1, c1⟩, ⟨A2, n2, c2⟩, ⟨A3, n3, c3⟩, day, ⟨A4, n4, c4⟩⟩ := v
  have HE := Lib.hid hE
  have Hwb : Hid (wb = w.alloc (.cells #[.int .i64 Hh, .slice A0 n0 c0, .slice A1 n1 c1, .slice A2 n2 c2, .slice A3 n3 c3, .int .i64 day, .slice A4 n4 c4] 48)) := hwb
  have HB := Lib.hid hbx
  have hsb : w.heap.size < wb.heap.size := hbx.lt
  clear hE hwb hbx hx hbk
  show Calls Try.prog 5 #[.agg #[.int .i64 Hh, .slice A0 n0 c0, .slice A1 n1 c1, .slice A2 n2 c2, .slice A3 n3 c3, .int .i64 day, .slice A4 n4 c4], .int .i64 d] w _
  obtain ⟨b0, b1, b2, b3, b4, b5, b6⟩ := HB.out.cell
  simp only at b0 b1 b2 b3 b4 b5 b6
  by_cases q : bk ≤ 1048576
  case neg =>
    rw [if_pos (by omega)] at cZ
    go_enter Try.func5, Try.ntmps5
    go_wp2_with (go_at_call 21; refine (fun h : Hid _ => h.out) ?_)
    unfold Hid
    rw [← Hwb.out]
    refine cZ.out.mono ?_
    rintro e w1 ⟨rfl, h1⟩
    have HE1 := Lib.hid h1
    clear h1 b0 b1 b2 b3 b4 b5 b6
    go_wp2_with fail
    go_ret
    exact ⟨rfl, HE.out.trans HE1.out⟩
  rw [if_neg (by omega)] at cZ
  obtain ⟨d0, d1, d2, d3, d4⟩ := hbd.out q
  simp only at d0 d1 d2 d3 d4
  have hnb : ¬ (1048576 - bk < 0) := by omega
  obtain ⟨bd, hbdd⟩ : ∃ bd, bd = daysB m d := ⟨_, rfl⟩
  have cS := Lib.hid (fun v W (h : MRd W v m) (f : MFit v) => spec_NextDays v m d W h f)
  have cI := Lib.hid (fun v W (h : MRd W v m) (f : MFit v) => impl_NextDays v m d W h f)
  rw [← hbdd] at cS cI
  have hNN := Lib.hid (fun v : MV => markEnd_nn (v := v))
  clear hbdd hbd q
  go_enter Try.func5, Try.ntmps5
  go_wp2_with (go_at_call 21; refine (fun h : Hid _ => h.out) ?_)
  unfold Hid
  rw [← Hwb.out]
  refine cZ.out.mono ?_
  rintro e w1 ⟨rfl, h1⟩
  have E := Lib.hid h1
  have BA := Lib.hid (HB.out.keep h1)
  clear h1 b0 b1 b2 b3 b4 b5 b6 cZ
  obtain ⟨b0, b1, b2, b3, b4, b5, b6⟩ := BA.out.cell
  simp only at b0 b1 b2 b3 b4 b5 b6
  go_wp2_with (go_at_call 23; refine (fun h : Hid _ => h.out) ?_)
  unfold Hid
  refine (cT.out _ E.out d0 d1 d2 d3 d4).mono ?_
  rintro e w2 ⟨pd, pf, pp, pg, pr, he, h2, o2⟩
  simp only [MV.val, MV.cells] at he
  subst he
  have E := Lib.hid (E.out.trans h2)
  have BA := Lib.hid (BA.out.keep h2)
  have Op := Lib.hid o2
  have Mp := Lib.hid (MAt.of_own o2)
  have z2 : w1.heap.size ≤ w2.heap.size := h2.size
  clear h2 o2
  clear b0 b1 b2 b3 b4 b5 b6
  go_wp2_with (go_at_call 22; refine (fun h : Hid _ => h.out) ?_)
  unfold Hid
  have hfitW := MFit.of_own Op.out d0 d1 d2 d3 d4
  refine (cS.out (⟨Hh, ⟨(some ⟨pd, 0, none⟩), n0, n0⟩, ⟨(some ⟨pf, 0, none⟩), n1, n1⟩, ⟨(some ⟨pp, 0, none⟩), n2, n2⟩, ⟨(some ⟨pg, 0, none⟩), n3, n3⟩, day, ⟨(some ⟨pr, 0, none⟩), n4, n4⟩⟩ : MV) _ Op.out.rd hfitW).mono ?_
  rintro e w3 ⟨vW, hev, h3, o3⟩
  obtain ⟨HW, ⟨AW0, nW0, kW0⟩, ⟨AW1, nW1, kW1⟩, ⟨AW2, nW2, kW2⟩, ⟨AW3, nW3, kW3⟩, dW, ⟨AW4, nW4, kW4⟩⟩ := vW
  simp only [MV.val, MV.cells] at hev
  subst hev
  have E := Lib.hid (E.out.trans h3)
  have BA := Lib.hid (BA.out.keep h3)
  have Op := Lib.hid (Op.out.keep h3)
  have FW := Lib.hid (days_fit o3 Op.out.rd d0 d1 d2 d3 d4)
  have OW := Lib.hid o3
  have MW := Lib.hid (MAt.of_own o3)
  have z3 : w2.heap.size ≤ w3.heap.size := h3.size
  clear h3 o3 hfitW
  clear Op Mp
  obtain ⟨w4, hw4⟩ : ∃ w4, w4 = w3.alloc (.cells #[.int .i64 HW, .slice AW0 nW0 kW0, .slice AW1 nW1 kW1, .slice AW2 nW2 kW2, .slice AW3 nW3 kW3, .int .i64 dW, .slice AW4 nW4 kW4] 28) := ⟨_, rfl⟩
  have BW := Lib.hid (MBox.new (v := (⟨HW, ⟨AW0, nW0, kW0⟩, ⟨AW1, nW1, kW1⟩, ⟨AW2, nW2, kW2⟩, ⟨AW3, nW3, kW3⟩, dW, ⟨AW4, nW4, kW4⟩⟩ : MV)) hw4)
  have hk4 : Ext w3 w4 := by rw [hw4]; exact (Ext.refl _).alloc _
  have E := Lib.hid (E.out.trans hk4)
  have BA := Lib.hid (BA.out.keep hk4)
  have OW := Lib.hid (OW.out.keep hk4)
  have HW4 := Lib.hid hw4
  have z4 : w3.heap.size < w4.heap.size := BW.out.lt
  clear hk4 hw4
  have zb : wb.heap.size ≤ w4.heap.size := E.out.size
  obtain ⟨b0, b1, b2, b3, b4, b5, b6⟩ := BA.out.cell
  simp only at b0 b1 b2 b3 b4 b5 b6
  rw [HW4.out] at b0 b1 b2 b3 b4 b5 b6
  go_wp2_with (go_at_call 23; refine (fun h : Hid _ => h.out) ?_)
  unfold Hid
  rw [← HW4.out]
  refine (cT.out _ E.out d0 d1 d2 d3 d4).mono ?_
  rintro e w5 ⟨xd, xf, xp, xg, xr, he, h5, o5⟩
  simp only [MV.val, MV.cells] at he
  subst he
  have E := Lib.hid (E.out.trans h5)
  have BA := Lib.hid (BA.out.keep h5)
  have OW := Lib.hid (OW.out.keep h5)
  have BW := Lib.hid (BW.out.keep h5)
  have Ox := Lib.hid o5
  have Mx := Lib.hid (MAt.of_own o5)
  have z5 : w4.heap.size ≤ w5.heap.size := h5.size
  clear h5 o5
  clear b0 b1 b2 b3 b4 b5 b6
  obtain ⟨w6, hw6⟩ : ∃ w6, w6 = w5.alloc (.cells #[.int .i64 Hh, .slice (some ⟨xd, 0, none⟩) n0 n0, .slice (some ⟨xf, 0, none⟩) n1 n1, .slice (some ⟨xp, 0, none⟩) n2 n2, .slice (some ⟨xg, 0, none⟩) n3 n3, .int .i64 day, .slice (some ⟨xr, 0, none⟩) n4 n4] 28) := ⟨_, rfl⟩
  have BX := Lib.hid (MBox.new (v := (⟨Hh, ⟨(some ⟨xd, 0, none⟩), n0, n0⟩, ⟨(some ⟨xf, 0, none⟩), n1, n1⟩, ⟨(some ⟨xp, 0, none⟩), n2, n2⟩, ⟨(some ⟨xg, 0, none⟩), n3, n3⟩, day, ⟨(some ⟨xr, 0, none⟩), n4, n4⟩⟩ : MV)) hw6)
  have hk6 : Ext w5 w6 := by rw [hw6]; exact (Ext.refl _).alloc _
  have E := Lib.hid (E.out.trans hk6)
  have BA := Lib.hid (BA.out.keep hk6)
  have OW := Lib.hid (OW.out.keep hk6)
  have BW := Lib.hid (BW.out.keep hk6)
  have Ox := Lib.hid (Ox.out.keep hk6)
  have HW6 := Lib.hid hw6
  have z6 : w5.heap.size < w6.heap.size := BX.out.lt
  clear hk6 hw6
  obtain ⟨b0, b1, b2, b3, b4, b5, b6⟩ := BX.out.cell
  simp only at b0 b1 b2 b3 b4 b5 b6
  rw [HW6.out] at b0 b1 b2 b3 b4 b5 b6
  go_wp2_with (go_at_call 24; refine (fun h : Hid _ => h.out) ?_)
  unfold Hid
  rw [← HW6.out]
  have hfitG := MFit.of_own Ox.out d0 d1 d2 d3 d4
  refine (cI.out (⟨Hh, ⟨(some ⟨xd, 0, none⟩), n0, n0⟩, ⟨(some ⟨xf, 0, none⟩), n1, n1⟩, ⟨(some ⟨xp, 0, none⟩), n2, n2⟩, ⟨(some ⟨xg, 0, none⟩), n3, n3⟩, day, ⟨(some ⟨xr, 0, none⟩), n4, n4⟩⟩ : MV) _ Ox.out.rd hfitG).mono ?_
  rintro e w7 ⟨vG, hev, h7, o7⟩
  obtain ⟨HG, ⟨AG0, nG0, kG0⟩, ⟨AG1, nG1, kG1⟩, ⟨AG2, nG2, kG2⟩, ⟨AG3, nG3, kG3⟩, dG, ⟨AG4, nG4, kG4⟩⟩ := vG
  simp only [MV.val, MV.cells] at hev
  subst hev
  have E := Lib.hid (E.out.trans h7)
  have BA := Lib.hid (BA.out.keep h7)
  have OW := Lib.hid (OW.out.keep h7)
  have BW := Lib.hid (BW.out.keep h7)
  have Ox := Lib.hid (Ox.out.keep h7)
  have BX := Lib.hid (BX.out.keep h7)
  have FG := Lib.hid (days_fit o7 Ox.out.rd d0 d1 d2 d3 d4)
  have OG := Lib.hid o7
  have MG := Lib.hid (MAt.of_own o7)
  have z7 : w6.heap.size ≤ w7.heap.size := h7.size
  clear h7 o7 hfitG
  clear b0 b1 b2 b3 b4 b5 b6
  obtain ⟨w8, hw8⟩ : ∃ w8, w8 = w7.alloc (.cells #[.int .i64 HG, .slice AG0 nG0 kG0, .slice AG1 nG1 kG1, .slice AG2 nG2 kG2, .slice AG3 nG3 kG3, .int .i64 dG, .slice AG4 nG4 kG4] 28) := ⟨_, rfl⟩
  have BG := Lib.hid (MBox.new (v := (⟨HG, ⟨AG0, nG0, kG0⟩, ⟨AG1, nG1, kG1⟩, ⟨AG2, nG2, kG2⟩, ⟨AG3, nG3, kG3⟩, dG, ⟨AG4, nG4, kG4⟩⟩ : MV)) hw8)
  have hk8 : Ext w7 w8 := by rw [hw8]; exact (Ext.refl _).alloc _
  have E := Lib.hid (E.out.trans hk8)
  have BA := Lib.hid (BA.out.keep hk8)
  have OW := Lib.hid (OW.out.keep hk8)
  have BW := Lib.hid (BW.out.keep hk8)
  have Ox := Lib.hid (Ox.out.keep hk8)
  have BX := Lib.hid (BX.out.keep hk8)
  have OG := Lib.hid (OG.out.keep hk8)
  have HW8 := Lib.hid hw8
  have z8 : w7.heap.size < w8.heap.size := BG.out.lt
  clear hk8 hw8
  obtain ⟨b0, b1, b2, b3, b4, b5, b6⟩ := BG.out.cell
  simp only at b0 b1 b2 b3 b4 b5 b6
  obtain ⟨y0, y1, y2, y3, y4, y5, y6⟩ := BW.out.cell
  simp only at y0 y1 y2 y3 y4 y5 y6
  rw [HW8.out] at b0 b1 b2 b3 b4 b5 b6 y0 y1 y2 y3 y4 y5 y6
  go_wp2_with (go_at_call 9; refine (fun h : Hid _ => h.out) ?_)
  unfold Hid
  rw [← HW8.out]
  refine (laws_eqMuseum (⟨HG, ⟨AG0, nG0, kG0⟩, ⟨AG1, nG1, kG1⟩, ⟨AG2, nG2, kG2⟩, ⟨AG3, nG3, kG3⟩, dG, ⟨AG4, nG4, kG4⟩⟩ : MV) (⟨HW, ⟨AW0, nW0, kW0⟩, ⟨AW1, nW1, kW1⟩, ⟨AW2, nW2, kW2⟩, ⟨AW3, nW3, kW3⟩, dW, ⟨AW4, nW4, kW4⟩⟩ : MV) (daysM m d) w8 OG.out.rd OW.out.rd).mono ?_
  rintro e w9 ⟨rfl, h9⟩
  have E := Lib.hid (E.out.trans h9)
  have BA := Lib.hid (BA.out.keep h9)
  have OW := Lib.hid (OW.out.keep h9)
  have BW := Lib.hid (BW.out.keep h9)
  have Ox := Lib.hid (Ox.out.keep h9)
  have BX := Lib.hid (BX.out.keep h9)
  have OG := Lib.hid (OG.out.keep h9)
  have BG := Lib.hid (BG.out.keep h9)
  have z9 := h9.size
  clear h9
  clear b0 b1 b2 b3 b4 b5 b6 y0 y1 y2 y3 y4 y5 y6
  go_wp2_with fail
  obtain ⟨b0, b1, b2, b3, b4, b5, b6⟩ := BA.out.cell
  simp only at b0 b1 b2 b3 b4 b5 b6
  obtain ⟨y0, y1, y2, y3, y4, y5, y6⟩ := BX.out.cell
  simp only at y0 y1 y2 y3 y4 y5 y6
  go_region_held3 (fun w' => w'.cell? ⟨w.heap.size, 0, none⟩ = some (.int .i64 Hh) ∧ w'.cell? ⟨w.heap.size, 1, none⟩ = some (.slice A0 n0 c0) ∧ w'.cell? ⟨w.heap.size, 2, none⟩ = some (.slice A1 n1 c1) ∧ w'.cell? ⟨w.heap.size, 3, none⟩ = some (.slice A2 n2 c2) ∧ w'.cell? ⟨w.heap.size, 4, none⟩ = some (.slice A3 n3 c3) ∧ w'.cell? ⟨w.heap.size, 5, none⟩ = some (.int .i64 day) ∧ w'.cell? ⟨w.heap.size, 6, none⟩ = some (.slice A4 n4 c4) ∧ w'.cell? ⟨w5.heap.size, 0, none⟩ = some (.int .i64 Hh) ∧ w'.cell? ⟨w5.heap.size, 1, none⟩ = some (.slice (some ⟨xd, 0, none⟩) n0 n0) ∧ w'.cell? ⟨w5.heap.size, 2, none⟩ = some (.slice (some ⟨xf, 0, none⟩) n1 n1) ∧ w'.cell? ⟨w5.heap.size, 3, none⟩ = some (.slice (some ⟨xp, 0, none⟩) n2 n2) ∧ w'.cell? ⟨w5.heap.size, 4, none⟩ = some (.slice (some ⟨xg, 0, none⟩) n3 n3) ∧ w'.cell? ⟨w5.heap.size, 5, none⟩ = some (.int .i64 day) ∧ w'.cell? ⟨w5.heap.size, 6, none⟩ = some (.slice (some ⟨xr, 0, none⟩) n4 n4)) (go_keep) (first
    | (go_at_call 23; refine (cT.out _ (E.out.trans ((Ext.refl _).drewN 1)) d0 d1 d2 d3 d4).mono ?_; rintro e w10 ⟨yd, yf, yp, yg, yr, he, h10, o10⟩; simp only [MV.val, MV.cells] at he; subst he; obtain ⟨s0, s1, s2, s3, s4, s5, s6⟩ := (BA.out.keep (Ext.trans ((Ext.refl _).drewN 1) h10)).cell; obtain ⟨t0, t1, t2, t3, t4, t5, t6⟩ := (BX.out.keep (Ext.trans ((Ext.refl _).drewN 1) h10)).cell; simp only at s0 s1 s2 s3 s4 s5 s6 t0 t1 t2 t3 t4 t5 t6)
    | (go_at_call 9; refine (laws_eqMuseum _ _ m _ (Ox.out.rd.keep (Ext.trans ((Ext.refl _).drewN 1) h10)) o10.rd).mono ?_; rintro e w11 ⟨rfl, h11⟩; obtain ⟨s0, s1, s2, s3, s4, s5, s6⟩ := (BA.out.keep ((Ext.trans ((Ext.refl _).drewN 1) h10).trans h11)).cell; obtain ⟨t0, t1, t2, t3, t4, t5, t6⟩ := (BX.out.keep ((Ext.trans ((Ext.refl _).drewN 1) h10).trans h11)).cell; simp only at s0 s1 s2 s3 s4 s5 s6 t0 t1 t2 t3 t4 t5 t6))
  have hX : Ext w9 w11 := ((Ext.trans ((Ext.refl _).drewN 1) h10).trans h11)
  have E := Lib.hid (E.out.trans hX)
  have BA := Lib.hid (BA.out.keep hX)
  have OW := Lib.hid (OW.out.keep hX)
  have BW := Lib.hid (BW.out.keep hX)
  have Ox := Lib.hid (Ox.out.keep hX)
  have BX := Lib.hid (BX.out.keep hX)
  have OG := Lib.hid (OG.out.keep hX)
  have BG := Lib.hid (BG.out.keep hX)
  have z11 : w9.heap.size ≤ w11.heap.size := hX.size
  clear hX h10 h11 o10
  clear b0 b1 b2 b3 b4 b5 b6 y0 y1 y2 y3 y4 y5 y6 s0 s1 s2 s3 s4 s5 s6 t0 t1 t2 t3 t4 t5 t6
  have fitx := Lib.hid (MFit.of_own Ox.out d0 d1 d2 d3 d4)
  obtain ⟨b0, b1, b2, b3, b4, b5, b6⟩ := BX.out.cell
  simp only at b0 b1 b2 b3 b4 b5 b6
  go_wp2_with (go_at_call 10; refine (fun h : Hid _ => h.out) ?_)
  unfold Hid
  obtain ⟨kx, hkx⟩ : ∃ z, z = markEnd 1 (⟨Hh, ⟨(some ⟨xd, 0, none⟩), n0, n0⟩, ⟨(some ⟨xf, 0, none⟩), n1, n1⟩, ⟨(some ⟨xp, 0, none⟩), n2, n2⟩, ⟨(some ⟨xg, 0, none⟩), n3, n3⟩, day, ⟨(some ⟨xr, 0, none⟩), n4, n4⟩⟩ : MV) := ⟨_, rfl⟩
  have nkx : ¬ kx < 0 := by rw [hkx]; exact markEnd_nn
  refine (laws_markMuseum (⟨Hh, ⟨(some ⟨xd, 0, none⟩), n0, n0⟩, ⟨(some ⟨xf, 0, none⟩), n1, n1⟩, ⟨(some ⟨xp, 0, none⟩), n2, n2⟩, ⟨(some ⟨xg, 0, none⟩), n3, n3⟩, day, ⟨(some ⟨xr, 0, none⟩), n4, n4⟩⟩ : MV) m 1 w4.heap.size w5.heap.size w11 Ox.out Mx.out fitx.out (by omega) (by omega) (by omega)).mono ?_
  rintro e w12 ⟨he, o12, k12⟩
  rw [← hkx] at he
  subst he
  have E := Lib.hid (k12.ext E.out (by omega))
  have z12 : w11.heap.size ≤ w12.heap.size := k12.size
  clear b0 b1 b2 b3 b4 b5 b6
  have BA := Lib.hid (BA.out.out k12 (.inl (by omega)))
  have BW := Lib.hid (BW.out.out k12 (.inl (by omega)))
  have BG := Lib.hid (BG.out.out k12 (.inr (by omega)))
  have OW := Lib.hid (OW.out.below k12 (MW.out.mono (Nat.le_refl _) (by omega)))
  have OG := Lib.hid (OG.out.out k12 (by omega))
  clear k12 o12 BX Ox hkx
  obtain ⟨b0, b1, b2, b3, b4, b5, b6⟩ := BG.out.cell
  simp only at b0 b1 b2 b3 b4 b5 b6
  obtain ⟨y0, y1, y2, y3, y4, y5, y6⟩ := BW.out.cell
  simp only at y0 y1 y2 y3 y4 y5 y6
  go_wp2_with (go_at_call 9; refine (fun h : Hid _ => h.out) ?_)
  unfold Hid
  refine (laws_eqMuseum (⟨HG, ⟨AG0, nG0, kG0⟩, ⟨AG1, nG1, kG1⟩, ⟨AG2, nG2, kG2⟩, ⟨AG3, nG3, kG3⟩, dG, ⟨AG4, nG4, kG4⟩⟩ : MV) (⟨HW, ⟨AW0, nW0, kW0⟩, ⟨AW1, nW1, kW1⟩, ⟨AW2, nW2, kW2⟩, ⟨AW3, nW3, kW3⟩, dW, ⟨AW4, nW4, kW4⟩⟩ : MV) (daysM m d) w12 OG.out.rd OW.out.rd).mono ?_
  rintro e w13 ⟨rfl, h13⟩
  have E := Lib.hid (E.out.trans h13)
  have BA := Lib.hid (BA.out.keep h13)
  have BW := Lib.hid (BW.out.keep h13)
  have BG := Lib.hid (BG.out.keep h13)
  have OW := Lib.hid (OW.out.keep h13)
  have OG := Lib.hid (OG.out.keep h13)
  have z13 : w12.heap.size ≤ w13.heap.size := h13.size
  clear h13
  clear b0 b1 b2 b3 b4 b5 b6 y0 y1 y2 y3 y4 y5 y6
  obtain ⟨b0, b1, b2, b3, b4, b5, b6⟩ := BG.out.cell
  simp only at b0 b1 b2 b3 b4 b5 b6
  go_wp2_with (go_at_call 10; refine (fun h : Hid _ => h.out) ?_)
  unfold Hid
  obtain ⟨kg, hkg⟩ : ∃ z, z = markEnd 1 (⟨HG, ⟨AG0, nG0, kG0⟩, ⟨AG1, nG1, kG1⟩, ⟨AG2, nG2, kG2⟩, ⟨AG3, nG3, kG3⟩, dG, ⟨AG4, nG4, kG4⟩⟩ : MV) := ⟨_, rfl⟩
  have nkg : ¬ kg < 0 := by rw [hkg]; exact markEnd_nn
  refine (laws_markMuseum (⟨HG, ⟨AG0, nG0, kG0⟩, ⟨AG1, nG1, kG1⟩, ⟨AG2, nG2, kG2⟩, ⟨AG3, nG3, kG3⟩, dG, ⟨AG4, nG4, kG4⟩⟩ : MV) (daysM m d) 1 w6.heap.size w7.heap.size w13 OG.out MG.out FG.out (by omega) (by omega) (by omega)).mono ?_
  rintro e w14 ⟨he, o14, k14⟩
  rw [← hkg] at he
  subst he
  have E := Lib.hid (k14.ext E.out (by omega))
  have z14 : w13.heap.size ≤ w14.heap.size := k14.size
  clear b0 b1 b2 b3 b4 b5 b6
  have BA := Lib.hid (BA.out.out k14 (.inl (by omega)))
  have BW := Lib.hid (BW.out.out k14 (.inl (by omega)))
  have BG := Lib.hid (BG.out.out k14 (.inr (by omega)))
  have OW := Lib.hid (OW.out.below k14 (MW.out.mono (Nat.le_refl _) (by omega)))
  have OM := Lib.hid o14
  have HKG := Lib.hid hkg
  clear k14 o14 OG hkg
  obtain ⟨b0, b1, b2, b3, b4, b5, b6⟩ := BG.out.cell
  simp only at b0 b1 b2 b3 b4 b5 b6
  go_wp2_with (go_at_call 11; refine (fun h : Hid _ => h.out) ?_)
  unfold Hid
  refine (laws_heldMuseum (⟨HG, ⟨AG0, nG0, kG0⟩, ⟨AG1, nG1, kG1⟩, ⟨AG2, nG2, kG2⟩, ⟨AG3, nG3, kG3⟩, dG, ⟨AG4, nG4, kG4⟩⟩ : MV) (daysM m d) 1 w14 OM.out.rd FG.out (by omega) (by omega)).mono ?_
  rintro e w15 ⟨he, h15⟩
  rw [← HKG.out] at he
  subst he
  have E := Lib.hid (E.out.trans h15)
  have BA := Lib.hid (BA.out.keep h15)
  have BW := Lib.hid (BW.out.keep h15)
  have BG := Lib.hid (BG.out.keep h15)
  have OW := Lib.hid (OW.out.keep h15)
  have OM := Lib.hid (OM.out.keep h15)
  have z15 : w14.heap.size ≤ w15.heap.size := h15.size
  clear h15
  clear b0 b1 b2 b3 b4 b5 b6
  obtain ⟨b0, b1, b2, b3, b4, b5, b6⟩ := BA.out.cell
  simp only at b0 b1 b2 b3 b4 b5 b6
  go_wp2_with (go_at_call 23; refine (fun h : Hid _ => h.out) ?_)
  unfold Hid
  refine (cT.out _ E.out d0 d1 d2 d3 d4).mono ?_
  rintro e w16 ⟨hd, hf, hp, hg, hr, he, h16, o16⟩
  simp only [MV.val, MV.cells] at he
  subst he
  have E := Lib.hid (E.out.trans h16)
  have BA := Lib.hid (BA.out.keep h16)
  have BW := Lib.hid (BW.out.keep h16)
  have BG := Lib.hid (BG.out.keep h16)
  have OW := Lib.hid (OW.out.keep h16)
  have OM := Lib.hid (OM.out.keep h16)
  have Oh := Lib.hid o16
  have Mh := Lib.hid (MAt.of_own o16)
  have z16 : w15.heap.size ≤ w16.heap.size := h16.size
  clear h16 o16
  clear b0 b1 b2 b3 b4 b5 b6
  go_wp2_with (go_at_call 24; refine (fun h : Hid _ => h.out) ?_)
  unfold Hid
  have hfitU := MFit.of_own Oh.out d0 d1 d2 d3 d4
  refine (cI.out (⟨Hh, ⟨(some ⟨hd, 0, none⟩), n0, n0⟩, ⟨(some ⟨hf, 0, none⟩), n1, n1⟩, ⟨(some ⟨hp, 0, none⟩), n2, n2⟩, ⟨(some ⟨hg, 0, none⟩), n3, n3⟩, day, ⟨(some ⟨hr, 0, none⟩), n4, n4⟩⟩ : MV) _ Oh.out.rd hfitU).mono ?_
  rintro e w17 ⟨vU, hev, h17, o17⟩
  obtain ⟨HU, ⟨AU0, nU0, kU0⟩, ⟨AU1, nU1, kU1⟩, ⟨AU2, nU2, kU2⟩, ⟨AU3, nU3, kU3⟩, dU, ⟨AU4, nU4, kU4⟩⟩ := vU
  simp only [MV.val, MV.cells] at hev
  subst hev
  have E := Lib.hid (E.out.trans h17)
  have BA := Lib.hid (BA.out.keep h17)
  have BW := Lib.hid (BW.out.keep h17)
  have BG := Lib.hid (BG.out.keep h17)
  have OW := Lib.hid (OW.out.keep h17)
  have OM := Lib.hid (OM.out.keep h17)
  have Oh := Lib.hid (Oh.out.keep h17)
  have FU := Lib.hid (days_fit o17 Oh.out.rd d0 d1 d2 d3 d4)
  have OU := Lib.hid o17
  have MU := Lib.hid (MAt.of_own o17)
  have z17 : w16.heap.size ≤ w17.heap.size := h17.size
  clear h17 o17 hfitU
  clear Oh Mh
  obtain ⟨w18, hw18⟩ : ∃ w18, w18 = w17.alloc (.cells #[.int .i64 HU, .slice AU0 nU0 kU0, .slice AU1 nU1 kU1, .slice AU2 nU2 kU2, .slice AU3 nU3 kU3, .int .i64 dU, .slice AU4 nU4 kU4] 28) := ⟨_, rfl⟩
  have BU := Lib.hid (MBox.new (v := (⟨HU, ⟨AU0, nU0, kU0⟩, ⟨AU1, nU1, kU1⟩, ⟨AU2, nU2, kU2⟩, ⟨AU3, nU3, kU3⟩, dU, ⟨AU4, nU4, kU4⟩⟩ : MV)) hw18)
  have hk18 : Ext w17 w18 := by rw [hw18]; exact (Ext.refl _).alloc _
  have E := Lib.hid (E.out.trans hk18)
  have BA := Lib.hid (BA.out.keep hk18)
  have BW := Lib.hid (BW.out.keep hk18)
  have BG := Lib.hid (BG.out.keep hk18)
  have OW := Lib.hid (OW.out.keep hk18)
  have OM := Lib.hid (OM.out.keep hk18)
  have OU := Lib.hid (OU.out.keep hk18)
  have HW18 := Lib.hid hw18
  have z18 : w17.heap.size < w18.heap.size := BU.out.lt
  clear hk18 hw18
  obtain ⟨b0, b1, b2, b3, b4, b5, b6⟩ := BU.out.cell
  simp only at b0 b1 b2 b3 b4 b5 b6
  obtain ⟨y0, y1, y2, y3, y4, y5, y6⟩ := BW.out.cell
  simp only at y0 y1 y2 y3 y4 y5 y6
  rw [HW18.out] at b0 b1 b2 b3 b4 b5 b6 y0 y1 y2 y3 y4 y5 y6
  go_wp2_with (go_at_call 9; refine (fun h : Hid _ => h.out) ?_)
  unfold Hid
  rw [← HW18.out]
  refine (laws_eqMuseum (⟨HU, ⟨AU0, nU0, kU0⟩, ⟨AU1, nU1, kU1⟩, ⟨AU2, nU2, kU2⟩, ⟨AU3, nU3, kU3⟩, dU, ⟨AU4, nU4, kU4⟩⟩ : MV) (⟨HW, ⟨AW0, nW0, kW0⟩, ⟨AW1, nW1, kW1⟩, ⟨AW2, nW2, kW2⟩, ⟨AW3, nW3, kW3⟩, dW, ⟨AW4, nW4, kW4⟩⟩ : MV) (daysM m d) w18 OU.out.rd OW.out.rd).mono ?_
  rintro e w19 ⟨rfl, h19⟩
  have E := Lib.hid (E.out.trans h19)
  have BA := Lib.hid (BA.out.keep h19)
  have BW := Lib.hid (BW.out.keep h19)
  have BG := Lib.hid (BG.out.keep h19)
  have OW := Lib.hid (OW.out.keep h19)
  have OM := Lib.hid (OM.out.keep h19)
  have OU := Lib.hid (OU.out.keep h19)
  have BU := Lib.hid (BU.out.keep h19)
  have z19 : w18.heap.size ≤ w19.heap.size := h19.size
  clear h19
  clear b0 b1 b2 b3 b4 b5 b6 y0 y1 y2 y3 y4 y5 y6
  obtain ⟨b0, b1, b2, b3, b4, b5, b6⟩ := BG.out.cell
  simp only at b0 b1 b2 b3 b4 b5 b6
  go_wp2_with (go_at_call 11; refine (fun h : Hid _ => h.out) ?_)
  unfold Hid
  refine (laws_heldMuseum (⟨HG, ⟨AG0, nG0, kG0⟩, ⟨AG1, nG1, kG1⟩, ⟨AG2, nG2, kG2⟩, ⟨AG3, nG3, kG3⟩, dG, ⟨AG4, nG4, kG4⟩⟩ : MV) (daysM m d) 1 w19 OM.out.rd FG.out (by omega) (by omega)).mono ?_
  rintro e w20 ⟨he, h20⟩
  rw [← HKG.out] at he
  subst he
  have E := Lib.hid (E.out.trans h20)
  have BA := Lib.hid (BA.out.keep h20)
  have BW := Lib.hid (BW.out.keep h20)
  have BG := Lib.hid (BG.out.keep h20)
  have OW := Lib.hid (OW.out.keep h20)
  have OM := Lib.hid (OM.out.keep h20)
  have OU := Lib.hid (OU.out.keep h20)
  have BU := Lib.hid (BU.out.keep h20)
  have z20 : w19.heap.size ≤ w20.heap.size := h20.size
  clear h20
  clear b0 b1 b2 b3 b4 b5 b6
  go_wp2_with fail
  go_ret
  exact ⟨rfl, HE.out.trans E.out⟩
end Go.Proofs.Ytkelmeemblmggaa
