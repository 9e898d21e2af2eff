/- Texts of one proof, laid one behind the other (SP3, NM5, TW); no condition but what stands at each theorem. -/
import Derived.Deep.DeepCutAuto
import Derived.Test.YtkelmeemblmggaaGreatDoorRows
import Derived.ProofKit
import Derived.LaidMore
import Derived.LaidOnce
import Derived.Test.YtkelmeemblmggaaGreatDoorZK
import Derived.Test.YtkelmeemblmggaaGreatDoorZO
/- Contract of the reference's NightMove; no condition but what stands at each theorem. -/
namespace Go.Proofs.YtkelmeemblmggaaGreatDoor
set_option linter.unusedSimpArgs false
set_option linter.unusedVariables false
open Go.RowKit Go.Sort
set_option maxRecDepth 100000 in
set_option maxHeartbeats 4000000 in
theorem spec_NightMove (v : MV) (m : GMuseum) (x : GMove) (w : World) (hx : MRd w v m) (hf : MFit v) : Calls Tryz.prog 25 #[v.val, .agg #[.int .i64 x.o, .int .i64 x.t, .int .i64 x.f, .int .i64 x.s]] w (MPost (nightM m x) (.bool (nightB m x)) w) := by
  obtain ⟨wb, hwb⟩ : ∃ wb, wb = w.alloc (.cells v.cells 30) := ⟨_, rfl⟩
  have hbx := MBox.new hwb
  have hE : Ext w wb := by rw [hwb]; exact (Ext.refl w).alloc _
  obtain ⟨wm, hwm⟩ : ∃ wm, wm = wb.alloc (.cells #[.int .i64 x.o, .int .i64 x.t, .int .i64 x.f, .int .i64 x.s] 56) := ⟨_, rfl⟩
  have hEm : Ext wb wm := by rw [hwm]; exact (Ext.refl wb).alloc _
  obtain ⟨wz, hwz⟩ : ∃ wz, wz = wm.alloc (.cells #[.int .i64 0, .slice none 0 0, .slice none 0 0, .slice none 0 0, .slice none 0 0, .int .i64 0, .slice none 0 0] 30) := ⟨_, rfl⟩
  have hEz : Ext wm wz := by rw [hwz]; exact (Ext.refl wm).alloc _
  have hsb : wb.heap.size = w.heap.size + 1 := by rw [hwb]; simp
  have hsm : wm.heap.size = w.heap.size + 1 + 1 := by rw [hwm]; simp [hsb]
  have hsz : wz.heap.size = w.heap.size + 1 + 1 + 1 := by rw [hwz]; simp [hsm]
  have HBz : Hid (Blk wz (w.heap.size + 1 + 1) 30 #[.int .i64 0, .slice none 0 0, .slice none 0 0, .slice none 0 0, .slice none 0 0, .int .i64 0, .slice none 0 0]) := Lib.hid (by rw [hwz, ← hsm]; exact Blk.new _ _ _)
  have HBm : Hid (Blk wz (w.heap.size + 1) 56 #[.int .i64 x.o, .int .i64 x.t, .int .i64 x.f, .int .i64 x.s]) := Lib.hid (by refine Blk.keep ?_ hEz; rw [hwm, ← hsb]; exact Blk.new _ _ _)
  have hE2 := hEm.trans hEz
  have HX := Lib.hid (hx.keep (hE.trans hE2))
  have HB := Lib.hid (hbx.keep hE2)
  have HE := Lib.hid (hE.trans hE2)
  have cC := Lib.hid (spec_l38Copy v m wz HX.out hf)
  have cM := Lib.hid (fun W (he : Ext wz W) => spec_MuseumOk v m W (HX.out.keep he))
  obtain ⟨Hh, ⟨A0, n0, c0⟩, ⟨A1, n1, c1⟩, ⟨A2, n2, c2⟩, ⟨A3, n3, c3⟩, day, ⟨A4, n4, c4⟩⟩ := v
  have hH : Hh = m.H := hx.eH
  subst hH
  have Hwz : Hid (wz = ((w.alloc (.cells #[.int .i64 m.H, .slice A0 n0 c0, .slice A1 n1 c1, .slice A2 n2 c2, .slice A3 n3 c3, .int .i64 m.d, .slice A4 n4 c4] 30)).alloc (.cells #[.int .i64 x.o, .int .i64 x.t, .int .i64 x.f, .int .i64 x.s] 56)).alloc (.cells #[.int .i64 0, .slice none 0 0, .slice none 0 0, .slice none 0 0, .slice none 0 0, .int .i64 0, .slice none 0 0] 30)) := Lib.hid (by rw [hwz, hwm, hwb, ← hx.ed]; rfl)
  have hday : day = m.d := hx.ed
  subst hday
  obtain ⟨cb, hcb⟩ : ∃ cb, cb = canMoveB m.H m.ds m.ps m.gs x := ⟨_, rfl⟩
  obtain ⟨PL, hPL⟩ : ∃ PL, PL = moveL m.H m.ds m.ps m.gs x := ⟨_, rfl⟩
  obtain ⟨ab, hab⟩ : ∃ ab, ab = appB m.rs m.d (moveT x) := ⟨_, rfl⟩
  obtain ⟨AL, hAL⟩ : ∃ AL, AL = appL m.rs m.d (moveT x) (moveT_h x) := ⟨_, rfl⟩
  have CM : Hid (∀ W, Ext wz W → Calls Tryz.prog 71 #[.agg #[.int .i64 m.H, .slice A0 n0 c0, .slice A1 n1 c1, .slice A2 n2 c2, .slice A3 n3 c3, .int .i64 m.d, .slice A4 n4 c4]] W fun e w' => e = .returned (.bool (museumB m)) ∧ Ext W w') := cM
  have CO : Hid (∀ W, Ext wz W → Calls Tryz.prog 86 #[.agg #[.int .i64 m.H, .slice A0 n0 c0], .slice A2 n2 c2, .slice A3 n3 c3, .agg #[.int .i64 x.o, .int .i64 x.t, .int .i64 x.f, .int .i64 x.s]] W fun e w' => ∃ v, e = .returned (.tuple #[v, .bool cb]) ∧ Ext W w' ∧ w'.ownsRow W.heap.size 3 1 v PL.length (PL.flatMap ienc)) := Lib.hid fun W he => by
    rw [hcb, hPL]
    exact spec_MoveObject m.H A0 n0 c0 m.ds A2 n2 c2 m.ps A3 n3 c3 m.gs x W (HX.out.rd.keep he) (HX.out.rp.keep he) (HX.out.rg.keep he) (Lib.hid hf.zp) hf.np
  have CA : Hid (∀ W, Ext wz W → Calls Tryz.prog 87 #[.slice A4 n4 c4, .int .i64 m.d, .string (moveT x)] W fun e w' => ∃ v, e = .returned (.tuple #[v, .bool ab]) ∧ Ext W w' ∧ w'.ownsRow W.heap.size 43 3 v AL.length (AL.flatMap GEntry.enc)) := Lib.hid fun W he => by
    rw [hab, hAL]
    exact spec_AppendEntry A4 n4 c4 m.rs m.d (moveT x) W (HX.out.rr.keep he) (Lib.hid hf.zr) hf.nr (moveT_h x)
  have CT := Lib.hid (fun W => spec_MoveText x W)
  obtain ⟨T, hT⟩ : ∃ T, T = moveT x := ⟨_, rfl⟩
  rw [← hT] at CA CT
  have HCB := Lib.hid hcb
  have HPL := Lib.hid hPL
  have HAB := Lib.hid hab
  have HAL := Lib.hid hAL
  have hzl : w.heap.size + 1 + 1 < wz.heap.size := by omega
  clear hwb hwz hwm hbx hE hEz hEm hE2 hx hf hsb hsz hsm hcb hPL hab hAL hT cM
  show Calls Tryz.prog 25 #[.agg #[.int .i64 m.H, .slice A0 n0 c0, .slice A1 n1 c1, .slice A2 n2 c2, .slice A3 n3 c3, .int .i64 m.d, .slice A4 n4 c4], .agg #[.int .i64 x.o, .int .i64 x.t, .int .i64 x.f, .int .i64 x.s]] w _
  obtain ⟨b0, b1, b2, b3, b4, b5, b6⟩ := HB.out.cell
  simp only at b0 b1 b2 b3 b4 b5 b6
  have Hb0 := Lib.hid b0
  rw [Hwz.out] at b0 b1 b2 b3 b4 b5 b6
  go_enter Tryz.func25, Tryz.ntmps25
  go_wp2_with (go_at_call 70; refine (fun h : Hid _ => h.out) ?_)
  unfold Hid
  rw [← Hwz.out]
  refine cC.out.mono ?_
  rintro e w1 ⟨v1, hev, he1, ho1⟩
  obtain ⟨Hh1, ⟨A01, n01, c01⟩, ⟨A11, n11, c11⟩, ⟨A21, n21, c21⟩, ⟨A31, n31, c31⟩, day1, ⟨A41, n41, c41⟩⟩ := v1
  simp only [MV.val, MV.cells] at hev
  subst hev
  have hd1 : day1 = m.d := ho1.ed
  subst hd1
  obtain ⟨w2, hw2⟩ : ∃ w2, w2 = w1.alloc (.cells #[.int .i64 Hh1, .slice A01 n01 c01, .slice A11 n11 c11, .slice A21 n21 c21, .slice A31 n31 c31, .int .i64 m.d, .slice A41 n41 c41] 30) := ⟨_, rfl⟩
  have hB6 : Blk w2 w1.heap.size 30 #[.int .i64 Hh1, .slice A01 n01 c01, .slice A11 n11 c11, .slice A21 n21 c21, .slice A31 n31 c31, .int .i64 m.d, .slice A41 n41 c41] := by rw [hw2]; exact Blk.new _ _ _
  have he2 : Ext w1 w2 := by rw [hw2]; exact (Ext.refl _).alloc _
  have HB6 := Lib.hid hB6
  have HAT := Lib.hid (MAt.of_own ho1)
  have HO2 := Lib.hid (ho1.keep he2)
  have HE2 := Lib.hid (he1.trans he2)
  have HW2 := Lib.hid hw2
  have hz2 : wz.heap.size ≤ w1.heap.size := he1.size
  have hs2 : w2.heap.size = w1.heap.size + 1 := by rw [hw2]; simp
  clear hB6 he2 ho1 he1 hw2 b0 b1 b2 b3 b4 b5 b6 cC
  obtain ⟨b0, b1, b2, b3, b4, b5, b6⟩ := (HB.out.keep HE2.out).cell
  simp only at b0 b1 b2 b3 b4 b5 b6
  rw [HW2.out] at b0 b1 b2 b3 b4 b5 b6
  go_wp2_with (go_at_call 71; refine (fun h : Hid _ => h.out) ?_)
  unfold Hid
  rw [← HW2.out]
  refine (CM.out w2 HE2.out).mono ?_
  rintro e w3 ⟨rfl, he3⟩
  have HE3 := Lib.hid (HE2.out.trans he3)
  have HO3 := Lib.hid (HO2.out.keep he3)
  have HB63 := Lib.hid (HB6.out.keep he3)
  have hz3 : w2.heap.size ≤ w3.heap.size := he3.size
  clear he3 b0 b1 b2 b3 b4 b5 b6
  cases hm : museumB m
  case false =>
    have HF : Hid (nightB m x = false) := Lib.hid (by simp [nightB, hm])
    have HM : Hid (nightM m x = m) := Lib.hid (by rw [nightM, HF.out]; rfl)
    clear hm

    have Bz := Blk.keep HBz.out HE3.out
    have x0 := Bz.cellAt (i := 0) (by simp)
    have x1 := Bz.cellAt (i := 1) (by simp)
    have x2 := Bz.cellAt (i := 2) (by simp)
    have x3 := Bz.cellAt (i := 3) (by simp)
    have x4 := Bz.cellAt (i := 4) (by simp)
    have x5 := Bz.cellAt (i := 5) (by simp)
    have x6 := Bz.cellAt (i := 6) (by simp)
    have fz := Bz.free
    simp at x0 x1 x2 x3 x4 x5 x6
    have y0 := HB63.out.cellAt (i := 0) (by simp)
    have y1 := HB63.out.cellAt (i := 1) (by simp)
    have y2 := HB63.out.cellAt (i := 2) (by simp)
    have y3 := HB63.out.cellAt (i := 3) (by simp)
    have y4 := HB63.out.cellAt (i := 4) (by simp)
    have y5 := HB63.out.cellAt (i := 5) (by simp)
    have y6 := HB63.out.cellAt (i := 6) (by simp)
    simp at y0 y1 y2 y3 y4 y5 y6
    have lz : w.heap.size + 1 + 1 < w3.heap.size := Bz.lt
    go_wp2_with fail
    obtain ⟨b6', k6⟩ := store7 Bz (.int .i64 Hh1) (.slice A01 n01 c01) (.slice A11 n11 c11) (.slice A21 n21 c21) (.slice A31 n31 c31) (.int .i64 m.d) (.slice A41 n41 c41)
    have hO6 := HO3.out.out k6 (by omega)
    have hE6 := k6.ext (HE.out.trans HE3.out) (by omega)
    generalize (((((((w3.setCell ⟨w.heap.size + 1 + 1, 0, none⟩ (.int .i64 Hh1)).setCell ⟨w.heap.size + 1 + 1, 1, none⟩ (.slice A01 n01 c01)).setCell ⟨w.heap.size + 1 + 1, 2, none⟩ (.slice A11 n11 c11)).setCell ⟨w.heap.size + 1 + 1, 3, none⟩ (.slice A21 n21 c21)).setCell ⟨w.heap.size + 1 + 1, 4, none⟩ (.slice A31 n31 c31)).setCell ⟨w.heap.size + 1 + 1, 5, none⟩ (.int .i64 m.d)).setCell ⟨w.heap.size + 1 + 1, 6, none⟩ (.slice A41 n41 c41)) = w9 at b6' k6 hO6 hE6 ⊢
    have t0 := b6'.cellAt (i := 0) (by simp)
    have t1 := b6'.cellAt (i := 1) (by simp)
    have t2 := b6'.cellAt (i := 2) (by simp)
    have t3 := b6'.cellAt (i := 3) (by simp)
    have t4 := b6'.cellAt (i := 4) (by simp)
    have t5 := b6'.cellAt (i := 5) (by simp)
    have t6 := b6'.cellAt (i := 6) (by simp)
    simp at t0 t1 t2 t3 t4 t5 t6
    refine bodyPost_ret (v := .tuple #[MV.val ⟨Hh1, ⟨A01, n01, c01⟩, ⟨A11, n11, c11⟩, ⟨A21, n21, c21⟩, ⟨A31, n31, c31⟩, m.d, ⟨A41, n41, c41⟩⟩, .bool false]) (by simp [results, Tryz.results25, go_sem, t0, t1, t2, t3, t4, t5, t6, MV.val, MV.cells]) rfl ?_
    exact ⟨_, (by rw [HF.out]), hE6, by rw [HM.out]; exact hO6.weak (by omega)⟩

  have HN : Hid (nightB m x = (cb && ab)) := Lib.hid (by rw [nightB, hm, HCB.out, HAB.out]; rfl)
  clear hm
  obtain ⟨b0, b1, b2, b3, b4, b5, b6⟩ := (HB.out.keep HE3.out).cell
  have hbm := HBm.out.keep HE3.out
  have q0 := hbm.cellAt (i := 0) (by simp)
  have q1 := hbm.cellAt (i := 1) (by simp)
  have q2 := hbm.cellAt (i := 2) (by simp)
  have q3 := hbm.cellAt (i := 3) (by simp)
  simp only at b0 b1 b2 b3 b4 b5 b6
  simp at q0 q1 q2 q3
  go_wp2_with (go_at_call 86; refine (fun h : Hid _ => h.out) ?_)
  unfold Hid
  refine (CO.out w3 HE3.out).mono ?_
  rintro e w4 ⟨vp, rfl, he4, hop⟩
  obtain ⟨Ap, cp, rfl, -⟩ := own_form hop
  have HE4 := Lib.hid (HE3.out.trans he4)
  have HO4 := Lib.hid (HO3.out.keep he4)
  have HB64 := Lib.hid (HB63.out.keep he4)
  have HP4 := Lib.hid hop
  have HAP := Lib.hid (At.of_own hop)
  have hz4 : w3.heap.size ≤ w4.heap.size := he4.size
  clear he4 hop hbm b0 b1 b2 b3 b4 b5 b6 q0 q1 q2 q3
  obtain ⟨-, -, -, -, -, r5, r6⟩ := (HB.out.keep HE4.out).cell
  simp only at r5 r6
  have rm := HBm.out.keep HE4.out
  have rx0 := rm.cellAt (i := 0) (by simp)
  have rx1 := rm.cellAt (i := 1) (by simp)
  have rx2 := rm.cellAt (i := 2) (by simp)
  have rx3 := rm.cellAt (i := 3) (by simp)
  simp at rx0 rx1 rx2 rx3
  go_wp2_with fail
  go_region_held3 (fun w' => w'.cell? ⟨w.heap.size, 5, none⟩ = some (.int .i64 m.d) ∧ w'.cell? ⟨w.heap.size, 6, none⟩ = some (.slice A4 n4 c4) ∧ w'.cell? ⟨w.heap.size + 1, 0, none⟩ = some (.int .i64 x.o) ∧ w'.cell? ⟨w.heap.size + 1, 1, none⟩ = some (.int .i64 x.t) ∧ w'.cell? ⟨w.heap.size + 1, 2, none⟩ = some (.int .i64 x.f) ∧ w'.cell? ⟨w.heap.size + 1, 3, none⟩ = some (.int .i64 x.s)) (go_keep) (first
    | (go_at_call 88; refine (CT.out _).mono ?_; rintro e w5 ⟨rfl, h5⟩; obtain ⟨-, -, -, -, -, s5, s6⟩ := (HB.out.keep (HE4.out.trans (Ext.trans ((Ext.refl _).drewN 1) h5))).cell; simp only at s5 s6; have sm := HBm.out.keep (HE4.out.trans (Ext.trans ((Ext.refl _).drewN 1) h5)); have sx0 := sm.cellAt (i := 0) (by simp); have sx1 := sm.cellAt (i := 1) (by simp); have sx2 := sm.cellAt (i := 2) (by simp); have sx3 := sm.cellAt (i := 3) (by simp); simp at sx0 sx1 sx2 sx3)
    | (go_at_call 87; refine (CA.out _ (HE4.out.trans (Ext.trans ((Ext.refl _).drewN 1) h5))).mono ?_; rintro e w6 ⟨va, rfl, h6, oa⟩; obtain ⟨-, -, -, -, -, u5, u6⟩ := (HB.out.keep (HE4.out.trans ((Ext.trans ((Ext.refl _).drewN 1) h5).trans h6))).cell; simp only at u5 u6; have um := HBm.out.keep (HE4.out.trans ((Ext.trans ((Ext.refl _).drewN 1) h5).trans h6)); have ux0 := um.cellAt (i := 0) (by simp); have ux1 := um.cellAt (i := 1) (by simp); have ux2 := um.cellAt (i := 2) (by simp); have ux3 := um.cellAt (i := 3) (by simp); simp at ux0 ux1 ux2 ux3))
  obtain ⟨Aa, ca, rfl, -⟩ := own_form oa
  have h45 : Ext w4 w5 := Ext.trans ((Ext.refl _).drewN 1) h5
  have hz5 : w4.heap.size ≤ w5.heap.size := h45.size
  have hz6 : w5.heap.size ≤ w6.heap.size := h6.size
  have h46 := h45.trans h6
  have HE6 := Lib.hid (HE4.out.trans h46)
  have HO6 := Lib.hid (HO4.out.keep h46)
  have HB66 := Lib.hid (HB64.out.keep h46)
  have HP6 := Lib.hid (own_keep HP4.out h46)
  have HA6 := Lib.hid oa
  have HAA := Lib.hid (At.of_own oa)
  clear h5 h6 h45 h46 oa
  cases cb
  case false =>
    have HF : Hid (nightB m x = false) := Lib.hid (HN.out.trans (by simp))
    have HM : Hid (nightM m x = m) := Lib.hid (by rw [nightM, HF.out]; rfl)
    have Bz := Blk.keep HBz.out HE6.out
    have x0 := Bz.cellAt (i := 0) (by simp)
    have x1 := Bz.cellAt (i := 1) (by simp)
    have x2 := Bz.cellAt (i := 2) (by simp)
    have x3 := Bz.cellAt (i := 3) (by simp)
    have x4 := Bz.cellAt (i := 4) (by simp)
    have x5 := Bz.cellAt (i := 5) (by simp)
    have x6 := Bz.cellAt (i := 6) (by simp)
    have fz := Bz.free
    simp at x0 x1 x2 x3 x4 x5 x6
    have y0 := HB66.out.cellAt (i := 0) (by simp)
    have y1 := HB66.out.cellAt (i := 1) (by simp)
    have y2 := HB66.out.cellAt (i := 2) (by simp)
    have y3 := HB66.out.cellAt (i := 3) (by simp)
    have y4 := HB66.out.cellAt (i := 4) (by simp)
    have y5 := HB66.out.cellAt (i := 5) (by simp)
    have y6 := HB66.out.cellAt (i := 6) (by simp)
    simp at y0 y1 y2 y3 y4 y5 y6
    have lz : w.heap.size + 1 + 1 < w6.heap.size := Bz.lt
    go_wp2_with fail
    obtain ⟨b6', k6⟩ := store7 Bz (.int .i64 Hh1) (.slice A01 n01 c01) (.slice A11 n11 c11) (.slice A21 n21 c21) (.slice A31 n31 c31) (.int .i64 m.d) (.slice A41 n41 c41)
    have hO6 := HO6.out.out k6 (by omega)
    have hE6 := k6.ext (HE.out.trans HE6.out) (by omega)
    generalize (((((((w6.setCell ⟨w.heap.size + 1 + 1, 0, none⟩ (.int .i64 Hh1)).setCell ⟨w.heap.size + 1 + 1, 1, none⟩ (.slice A01 n01 c01)).setCell ⟨w.heap.size + 1 + 1, 2, none⟩ (.slice A11 n11 c11)).setCell ⟨w.heap.size + 1 + 1, 3, none⟩ (.slice A21 n21 c21)).setCell ⟨w.heap.size + 1 + 1, 4, none⟩ (.slice A31 n31 c31)).setCell ⟨w.heap.size + 1 + 1, 5, none⟩ (.int .i64 m.d)).setCell ⟨w.heap.size + 1 + 1, 6, none⟩ (.slice A41 n41 c41)) = w9 at b6' k6 hO6 hE6 ⊢
    have t0 := b6'.cellAt (i := 0) (by simp)
    have t1 := b6'.cellAt (i := 1) (by simp)
    have t2 := b6'.cellAt (i := 2) (by simp)
    have t3 := b6'.cellAt (i := 3) (by simp)
    have t4 := b6'.cellAt (i := 4) (by simp)
    have t5 := b6'.cellAt (i := 5) (by simp)
    have t6 := b6'.cellAt (i := 6) (by simp)
    simp at t0 t1 t2 t3 t4 t5 t6
    refine bodyPost_ret (v := .tuple #[MV.val ⟨Hh1, ⟨A01, n01, c01⟩, ⟨A11, n11, c11⟩, ⟨A21, n21, c21⟩, ⟨A31, n31, c31⟩, m.d, ⟨A41, n41, c41⟩⟩, .bool false]) (by simp [results, Tryz.results25, go_sem, t0, t1, t2, t3, t4, t5, t6, MV.val, MV.cells]) rfl ?_
    exact ⟨_, (by rw [HF.out]), hE6, by rw [HM.out]; exact hO6.weak (by omega)⟩
  cases ab
  case false =>
    have HF : Hid (nightB m x = false) := Lib.hid (HN.out.trans (by simp))
    have HM : Hid (nightM m x = m) := Lib.hid (by rw [nightM, HF.out]; rfl)
    have Bz := Blk.keep HBz.out HE6.out
    have x0 := Bz.cellAt (i := 0) (by simp)
    have x1 := Bz.cellAt (i := 1) (by simp)
    have x2 := Bz.cellAt (i := 2) (by simp)
    have x3 := Bz.cellAt (i := 3) (by simp)
    have x4 := Bz.cellAt (i := 4) (by simp)
    have x5 := Bz.cellAt (i := 5) (by simp)
    have x6 := Bz.cellAt (i := 6) (by simp)
    have fz := Bz.free
    simp at x0 x1 x2 x3 x4 x5 x6
    have y0 := HB66.out.cellAt (i := 0) (by simp)
    have y1 := HB66.out.cellAt (i := 1) (by simp)
    have y2 := HB66.out.cellAt (i := 2) (by simp)
    have y3 := HB66.out.cellAt (i := 3) (by simp)
    have y4 := HB66.out.cellAt (i := 4) (by simp)
    have y5 := HB66.out.cellAt (i := 5) (by simp)
    have y6 := HB66.out.cellAt (i := 6) (by simp)
    simp at y0 y1 y2 y3 y4 y5 y6
    have lz : w.heap.size + 1 + 1 < w6.heap.size := Bz.lt
    go_wp2_with fail
    obtain ⟨b6', k6⟩ := store7 Bz (.int .i64 Hh1) (.slice A01 n01 c01) (.slice A11 n11 c11) (.slice A21 n21 c21) (.slice A31 n31 c31) (.int .i64 m.d) (.slice A41 n41 c41)
    have hO6 := HO6.out.out k6 (by omega)
    have hE6 := k6.ext (HE.out.trans HE6.out) (by omega)
    generalize (((((((w6.setCell ⟨w.heap.size + 1 + 1, 0, none⟩ (.int .i64 Hh1)).setCell ⟨w.heap.size + 1 + 1, 1, none⟩ (.slice A01 n01 c01)).setCell ⟨w.heap.size + 1 + 1, 2, none⟩ (.slice A11 n11 c11)).setCell ⟨w.heap.size + 1 + 1, 3, none⟩ (.slice A21 n21 c21)).setCell ⟨w.heap.size + 1 + 1, 4, none⟩ (.slice A31 n31 c31)).setCell ⟨w.heap.size + 1 + 1, 5, none⟩ (.int .i64 m.d)).setCell ⟨w.heap.size + 1 + 1, 6, none⟩ (.slice A41 n41 c41)) = w9 at b6' k6 hO6 hE6 ⊢
    have t0 := b6'.cellAt (i := 0) (by simp)
    have t1 := b6'.cellAt (i := 1) (by simp)
    have t2 := b6'.cellAt (i := 2) (by simp)
    have t3 := b6'.cellAt (i := 3) (by simp)
    have t4 := b6'.cellAt (i := 4) (by simp)
    have t5 := b6'.cellAt (i := 5) (by simp)
    have t6 := b6'.cellAt (i := 6) (by simp)
    simp at t0 t1 t2 t3 t4 t5 t6
    refine bodyPost_ret (v := .tuple #[MV.val ⟨Hh1, ⟨A01, n01, c01⟩, ⟨A11, n11, c11⟩, ⟨A21, n21, c21⟩, ⟨A31, n31, c31⟩, m.d, ⟨A41, n41, c41⟩⟩, .bool false]) (by simp [results, Tryz.results25, go_sem, t0, t1, t2, t3, t4, t5, t6, MV.val, MV.cells]) rfl ?_
    exact ⟨_, (by rw [HF.out]), hE6, by rw [HM.out]; exact hO6.weak (by omega)⟩
  case true =>
    have HF : Hid (nightB m x = true) := Lib.hid (HN.out.trans (by simp))
    have HM : Hid (nightM m x = { m with ps := PL, rs := AL }) := Lib.hid (by rw [nightM, if_pos HF.out, HPL.out, HAL.out, moveL, appL, ← HCB.out, ← HAB.out]; rfl)
    have y3 := HB66.out.cellAt (i := 3) (by simp)
    have y6 := HB66.out.cellAt (i := 6) (by simp)
    have f6 := HB66.out.free
    have l6 := HB66.out.lt
    simp at y3 y6
    go_upto_region 10 with fail
    have hk := KeptOut.of_grown (lo := w1.heap.size) (hi := w1.heap.size + 1) (grown_set (grown_set (grown_refl w6 (some w1.heap.size)) 3 (.slice Ap PL.length cp)) 6 (.slice Aa AL.length ca)) (fun k hk => by injection hk with hk; omega)
    have hb7 := (HB66.out.set 3 (.slice Ap PL.length cp)).set 6 (.slice Aa AL.length ca)
    simp only [List.setIfInBounds_toArray, List.set_cons_succ, List.set_cons_zero] at hb7
    have ho7 := HO6.out.below hk HAT.out
    have hp7 := hk.own HP6.out (fun g hg => by have := HAP.out g hg; omega)
    have ha7 := hk.own HA6.out (fun g hg => by have := HAA.out g hg; omega)
    have he7 := hk.ext HE6.out hz2
    generalize (w6.setCell ⟨w1.heap.size, 3, none⟩ (.slice Ap PL.length cp)).setCell ⟨w1.heap.size, 6, none⟩ (.slice Aa AL.length ca) = w7 at hk hb7 ho7 hp7 ha7 he7 ⊢
    have HB7 := Lib.hid hb7
    have HO7 := Lib.hid (ho7.repl HAT.out hp7 HAP.out ha7 HAA.out (by omega) (by omega) (by omega))
    have HE7 := Lib.hid he7
    clear hk hb7 ho7 hp7 ha7 he7 y3 y6 f6 l6
    have Bz := Blk.keep HBz.out HE7.out
    have x0 := Bz.cellAt (i := 0) (by simp)
    have x1 := Bz.cellAt (i := 1) (by simp)
    have x2 := Bz.cellAt (i := 2) (by simp)
    have x3 := Bz.cellAt (i := 3) (by simp)
    have x4 := Bz.cellAt (i := 4) (by simp)
    have x5 := Bz.cellAt (i := 5) (by simp)
    have x6 := Bz.cellAt (i := 6) (by simp)
    have fz := Bz.free
    simp at x0 x1 x2 x3 x4 x5 x6
    have y0 := HB7.out.cellAt (i := 0) (by simp)
    have y1 := HB7.out.cellAt (i := 1) (by simp)
    have y2 := HB7.out.cellAt (i := 2) (by simp)
    have y3 := HB7.out.cellAt (i := 3) (by simp)
    have y4 := HB7.out.cellAt (i := 4) (by simp)
    have y5 := HB7.out.cellAt (i := 5) (by simp)
    have y6 := HB7.out.cellAt (i := 6) (by simp)
    simp at y0 y1 y2 y3 y4 y5 y6
    have lz : w.heap.size + 1 + 1 < w7.heap.size := Bz.lt
    go_wp2_with fail
    obtain ⟨b6', k6⟩ := store7 Bz (.int .i64 Hh1) (.slice A01 n01 c01) (.slice A11 n11 c11) (.slice Ap PL.length cp) (.slice A31 n31 c31) (.int .i64 m.d) (.slice Aa AL.length ca)
    have hO6 := HO7.out.out k6 (by omega)
    have hE6 := k6.ext (HE.out.trans HE7.out) (by omega)
    generalize (((((((w7.setCell ⟨w.heap.size + 1 + 1, 0, none⟩ (.int .i64 Hh1)).setCell ⟨w.heap.size + 1 + 1, 1, none⟩ (.slice A01 n01 c01)).setCell ⟨w.heap.size + 1 + 1, 2, none⟩ (.slice A11 n11 c11)).setCell ⟨w.heap.size + 1 + 1, 3, none⟩ (.slice Ap PL.length cp)).setCell ⟨w.heap.size + 1 + 1, 4, none⟩ (.slice A31 n31 c31)).setCell ⟨w.heap.size + 1 + 1, 5, none⟩ (.int .i64 m.d)).setCell ⟨w.heap.size + 1 + 1, 6, none⟩ (.slice Aa AL.length ca)) = w9 at b6' k6 hO6 hE6 ⊢
    have t0 := b6'.cellAt (i := 0) (by simp)
    have t1 := b6'.cellAt (i := 1) (by simp)
    have t2 := b6'.cellAt (i := 2) (by simp)
    have t3 := b6'.cellAt (i := 3) (by simp)
    have t4 := b6'.cellAt (i := 4) (by simp)
    have t5 := b6'.cellAt (i := 5) (by simp)
    have t6 := b6'.cellAt (i := 6) (by simp)
    simp at t0 t1 t2 t3 t4 t5 t6
    refine bodyPost_ret (v := .tuple #[MV.val ⟨Hh1, ⟨A01, n01, c01⟩, ⟨A11, n11, c11⟩, ⟨Ap, PL.length, cp⟩, ⟨A31, n31, c31⟩, m.d, ⟨Aa, AL.length, ca⟩⟩, .bool true]) (by simp [results, Tryz.results25, go_sem, t0, t1, t2, t3, t4, t5, t6, MV.val, MV.cells]) rfl ?_
    exact ⟨_, (by rw [HF.out]), hE6, by rw [HM.out]; exact hO6.weak (by omega)⟩
end Go.Proofs.YtkelmeemblmggaaGreatDoor
/- The walk of the law on NightMove; no condition. -/
namespace Go.Proofs.YtkelmeemblmggaaGreatDoor
set_option linter.unusedSimpArgs false
set_option linter.unusedVariables false
open Go.RowKit Go.Sort
/-- What a region that calls and boxes a museum has left: the box g, the rows in lo..hi, the world. -/
structure Got (w1 wx : World) (g lo hi : Nat) (v : MV) (M : GMuseum) : Prop where
  e : Ext w1 wx
  g1 : w1.heap.size ≤ g
  l1 : w1.heap.size ≤ lo
  h1 : hi ≤ wx.heap.size
  o1 : g < lo ∨ hi ≤ g
  box : MBox wx g v
  own : MOwn wx lo v M
  rows : MAt lo hi v
theorem Got.of {w1 W wC wD : World} {g : Nat} {H : Int} {A0 A1 A2 A3 A4 : Option Addr} {n0 k0 n1 k1 n2 k2 n3 k3 n4 k4 : Nat} {d : Int} {M : GMuseum} {t : TypeId} {a0 a1 a2 a3 a4 a5 a6 : Value}
    (ho : MOwn wC W.heap.size (⟨H, ⟨A0, n0, k0⟩, ⟨A1, n1, k1⟩, ⟨A2, n2, k2⟩, ⟨A3, n3, k3⟩, d, ⟨A4, n4, k4⟩⟩ : MV) M) (hC : Ext W wC) (hz : Blk wD g t #[a0, a1, a2, a3, a4, a5, a6]) (hE : Ext w1 W) (hK : Ext wC wD) (hg : w1.heap.size ≤ g) (hout : g < W.heap.size ∨ wC.heap.size ≤ g) :
    Got w1 (((((((wD.setCell ⟨g, 0, none⟩ (.int .i64 H)).setCell ⟨g, 1, none⟩ (.slice A0 n0 k0)).setCell ⟨g, 2, none⟩ (.slice A1 n1 k1)).setCell ⟨g, 3, none⟩ (.slice A2 n2 k2)).setCell ⟨g, 4, none⟩ (.slice A3 n3 k3)).setCell ⟨g, 5, none⟩ (.int .i64 d)).setCell ⟨g, 6, none⟩ (.slice A4 n4 k4)) g W.heap.size wC.heap.size ⟨H, ⟨A0, n0, k0⟩, ⟨A1, n1, k1⟩, ⟨A2, n2, k2⟩, ⟨A3, n3, k3⟩, d, ⟨A4, n4, k4⟩⟩ M := by
  obtain ⟨b, k⟩ := store7 hz (.int .i64 H) (.slice A0 n0 k0) (.slice A1 n1 k1) (.slice A2 n2 k2) (.slice A3 n3 k3) (.int .i64 d) (.slice A4 n4 k4)
  have s1 := hE.size
  have s2 := hC.size
  have s3 := hK.size
  have s4 := k.size
  have ho1 := ho.keep hK
  refine ⟨k.ext (hE.trans (hC.trans hK)) hg, hg, s1, by omega, hout, .of_blk b, ?_, .of_own ho⟩
  rcases hout with h | h
  · exact ho1.out k (by omega)
  · exact ho1.below k ((MAt.of_own ho).mono (Nat.le_refl _) h)
theorem Got.new {w1 W wC : World} {H : Int} {A0 A1 A2 A3 A4 : Option Addr} {n0 k0 n1 k1 n2 k2 n3 k3 n4 k4 : Nat} {d : Int} {M : GMuseum} {t : TypeId}
    (ho : MOwn wC W.heap.size (⟨H, ⟨A0, n0, k0⟩, ⟨A1, n1, k1⟩, ⟨A2, n2, k2⟩, ⟨A3, n3, k3⟩, d, ⟨A4, n4, k4⟩⟩ : MV) M) (hC : Ext W wC) (hE : Ext w1 W) :
    Got w1 (wC.alloc (.cells #[.int .i64 H, .slice A0 n0 k0, .slice A1 n1 k1, .slice A2 n2 k2, .slice A3 n3 k3, .int .i64 d, .slice A4 n4 k4] t)) wC.heap.size W.heap.size wC.heap.size ⟨H, ⟨A0, n0, k0⟩, ⟨A1, n1, k1⟩, ⟨A2, n2, k2⟩, ⟨A3, n3, k3⟩, d, ⟨A4, n4, k4⟩⟩ M := by
  have s1 := hE.size
  have s2 := hC.size
  exact ⟨(hE.trans hC).alloc _, by omega, s1, by simp, .inr (Nat.le_refl _), .of_blk (Blk.new _ _ _), ho.keep ((Ext.refl _).alloc _), .of_own ho⟩
theorem heap_size_drewL (w : World) (n : Nat) : (w.drewN n).heap.size = w.heap.size := rfl
theorem Blk.outK {w w' : World} {lo hi b : Nat} {t : TypeId} {cs : Array Value} (h : Blk w b t cs) (k : KeptOut lo hi w w') (hb : b < lo ∨ hi ≤ b) : Blk w' b t cs := (k.2 b h.lt hb).trans h
theorem night_fit {w : World} {base : Nat} {v v' : MV} {m : GMuseum} {x : GMove} (h : MOwn w base v (nightM m x)) {w' : World} (hx : MRd w' v' m) (hd : v'.sd.n ≤ 1048576) (hf : v'.sf.n ≤ 1048576) (hp : v'.sp.n ≤ 1048576) (hg : v'.sg.n ≤ 1048576) (hr : v'.sr.n ≤ 1048576) : MFit v := by
  obtain ⟨a1, a2, a3, a4, a5⟩ := h.rd.lens
  obtain ⟨b1, b2, b3, b4, b5⟩ := hx.lens
  obtain ⟨c1, c2, c3, c4, c5⟩ := nightM_lens m x
  have c6 := nightM_rs m x
  exact MFit.of_own h (by omega) (by omega) (by omega) (by omega) (by omega)
set_option maxRecDepth 100000 in
set_option maxHeartbeats 4000000 in
theorem law_NightMove (v : MV) (m : GMuseum) (x : GMove) (w : World) (hx : MRd w v m) : Calls Tryz.prog 4 #[v.val, .agg #[.int .i64 x.o, .int .i64 x.t, .int .i64 x.f, .int .i64 x.s]] w fun e w' => e = .returned (.bool true) ∧ Ext w w' := by
  obtain ⟨wy, hwy⟩ : ∃ wy, wy = w.alloc (.cells v.cells 49) := ⟨_, rfl⟩
  obtain ⟨wb, hwb⟩ : ∃ wb, wb = wy.alloc (.cells #[.int .i64 x.o, .int .i64 x.t, .int .i64 x.f, .int .i64 x.s] 51) := ⟨_, rfl⟩
  have hEy : Ext w wy := by rw [hwy]; exact (Ext.refl w).alloc _
  have hEb : Ext wy wb := by rw [hwb]; exact (Ext.refl wy).alloc _
  have hsy : wy.heap.size = w.heap.size + 1 := by rw [hwy]; simp
  have hbx := (MBox.new hwy).keep hEb
  have hbs : Blk wb (w.heap.size + 1) 51 #[.int .i64 x.o, .int .i64 x.t, .int .i64 x.f, .int .i64 x.s] := by rw [hwb, ← hsy]; exact Blk.new _ _ _
  have hE := hEy.trans hEb
  have HX := Lib.hid (hx.keep hE)
  have cZ := Lib.hid (laws_szMuseum v m 1048576 wb HX.out (by omega) (by omega))
  have hbd : Hid (bulkM v m ≤ 1048576 → v.sd.n ≤ 1048576 ∧ v.sf.n ≤ 1048576 ∧ v.sp.n ≤ 1048576 ∧ v.sg.n ≤ 1048576 ∧ v.sr.n ≤ 1048576) := bulk_bdN
  have cT := Lib.hid (fun W (he : Ext wb W) a b c d f => laws_toMuseum v m W (HX.out.keep he) a b c d f)
  obtain ⟨bk, hbk⟩ : ∃ bk, bk = bulkM v m := ⟨_, rfl⟩
  rw [← hbk] at cZ hbd
  obtain ⟨Hh, ⟨A0, n0, c0⟩, ⟨A1, n1, c1⟩, ⟨A2, n2, c2⟩, ⟨A3, n3, c3⟩, day, ⟨A4, n4, c4⟩⟩ := v
  have HE := Lib.hid hE
  have Hwb : Hid (wb = (w.alloc (.cells #[.int .i64 Hh, .slice A0 n0 c0, .slice A1 n1 c1, .slice A2 n2 c2, .slice A3 n3 c3, .int .i64 day, .slice A4 n4 c4] 49)).alloc (.cells #[.int .i64 x.o, .int .i64 x.t, .int .i64 x.f, .int .i64 x.s] 51)) := Lib.hid (by rw [hwb, hwy]; rfl)
  have HB := Lib.hid hbx
  have HS := Lib.hid hbs
  have hsb : w.heap.size + 1 < wb.heap.size := hbs.lt
  clear hE hwb hbx hx hbk hwy hEy hEb hsy hbs
  show Calls Tryz.prog 4 #[.agg #[.int .i64 Hh, .slice A0 n0 c0, .slice A1 n1 c1, .slice A2 n2 c2, .slice A3 n3 c3, .int .i64 day, .slice A4 n4 c4], .agg #[.int .i64 x.o, .int .i64 x.t, .int .i64 x.f, .int .i64 x.s]] w _
  obtain ⟨b0, b1, b2, b3, b4, b5, b6⟩ := HB.out.cell
  simp only at b0 b1 b2 b3 b4 b5 b6
  by_cases q : bk ≤ 1048576
  case neg =>
    rw [if_pos (by omega)] at cZ
    go_enter Tryz.func4, Tryz.ntmps4
    go_wp2_with (go_at_call 24; refine (fun h : Hid _ => h.out) ?_)
    unfold Hid
    rw [← Hwb.out]
    refine cZ.out.mono ?_
    rintro e w1 ⟨rfl, h1⟩
    have HE1 := Lib.hid h1
    clear h1 b0 b1 b2 b3 b4 b5 b6
    go_wp2_with fail
    go_ret
    exact ⟨rfl, HE.out.trans HE1.out⟩
  rw [if_neg (by omega)] at cZ
  obtain ⟨d0, d1, d2, d3, d4⟩ := hbd.out q
  simp only at d0 d1 d2 d3 d4
  have hnb : ¬ (1048576 - bk < 0) := by omega
  obtain ⟨bd, hbdd⟩ : ∃ bd, bd = nightB m x := ⟨_, rfl⟩
  have cS := Lib.hid (fun v W (h : MRd W v m) (f : MFit v) => spec_NightMove v m x W h f)
  have cI := Lib.hid (fun v W (h : MRd W v m) (f : MFit v) => impl_NightMove v m x W h f)
  rw [← hbdd] at cS cI
  have hNN := Lib.hid (fun v : MV => markEnd_nn (v := v))
  clear hbdd hbd q
  go_enter Tryz.func4, Tryz.ntmps4
  go_wp2_with (go_at_call 24; refine (fun h : Hid _ => h.out) ?_)
  unfold Hid
  rw [← Hwb.out]
  refine cZ.out.mono ?_
  rintro e w1 ⟨rfl, h1⟩
  have E := Lib.hid h1
  have BA := Lib.hid (HB.out.keep h1)
  have BS := Lib.hid (HS.out.keep h1)
  clear h1 b0 b1 b2 b3 b4 b5 b6 cZ
  go_upto_region 5 with fail
  obtain ⟨b0, b1, b2, b3, b4, b5, b6⟩ := BA.out.cell
  simp only at b0 b1 b2 b3 b4 b5 b6
  have xc0 := BS.out.cellAt (i := 0) (by simp)
  have xc1 := BS.out.cellAt (i := 1) (by simp)
  have xc2 := BS.out.cellAt (i := 2) (by simp)
  have xc3 := BS.out.cellAt (i := 3) (by simp)
  simp at xc0 xc1 xc2 xc3
  go_cut [6, 7] (fun p q wx => ∃ (g lo hi : Nat) (v : MV), p = .pointer (some ⟨g, 0, none⟩) ∧ q = .bool bd ∧ Got w1 wx g lo hi v (nightM m x))
  case first =>
    have zs : w.heap.size + 1 < w1.heap.size := BS.out.lt
    have ne0 : w1.heap.size ≠ w.heap.size := by omega
    have ne1 : w1.heap.size ≠ w.heap.size + 1 := by omega
    go_region_held3 (fun w' => w'.cell? ⟨w.heap.size, 0, none⟩ = some (.int .i64 Hh) ∧ w'.cell? ⟨w.heap.size, 1, none⟩ = some (.slice A0 n0 c0) ∧ w'.cell? ⟨w.heap.size, 2, none⟩ = some (.slice A1 n1 c1) ∧ w'.cell? ⟨w.heap.size, 3, none⟩ = some (.slice A2 n2 c2) ∧ w'.cell? ⟨w.heap.size, 4, none⟩ = some (.slice A3 n3 c3) ∧ w'.cell? ⟨w.heap.size, 5, none⟩ = some (.int .i64 day) ∧ w'.cell? ⟨w.heap.size, 6, none⟩ = some (.slice A4 n4 c4) ∧ w'.cell? ⟨w.heap.size + 1, 0, none⟩ = some (.int .i64 x.o) ∧ w'.cell? ⟨w.heap.size + 1, 1, none⟩ = some (.int .i64 x.t) ∧ w'.cell? ⟨w.heap.size + 1, 2, none⟩ = some (.int .i64 x.f) ∧ w'.cell? ⟨w.heap.size + 1, 3, none⟩ = some (.int .i64 x.s)) (go_keep) (first
      | (go_at_call 26; refine (cT.out _ (E.out.trans (by (repeat (first | exact Ext.refl _ | assumption | refine Ext.alloc ?_ _ | refine Ext.drew ?_ | refine Ext.drewN ?_ _ | refine Ext.setCell ?_ (by first | (simp; done) | (simp; omega)) _ | refine Ext.trans ?_ (by assumption))))) d0 d1 d2 d3 d4).mono ?_; rintro e wA ⟨pd, pf, pp, pg, pr, he, hA, oA⟩; simp only [MV.val, MV.cells] at he; subst he; have es : Ext w1 wA := (by (repeat (first | exact Ext.refl _ | assumption | refine Ext.alloc ?_ _ | refine Ext.drew ?_ | refine Ext.drewN ?_ _ | refine Ext.setCell ?_ (by first | (simp; done) | (simp; omega)) _ | refine Ext.trans ?_ (by assumption)))); obtain ⟨s0, s1, s2, s3, s4, s5, s6⟩ := (BA.out.keep es).cell; simp only at s0 s1 s2 s3 s4 s5 s6; have sm := BS.out.keep es; have sy0 := sm.cellAt (i := 0) (by simp); have sy1 := sm.cellAt (i := 1) (by simp); have sy2 := sm.cellAt (i := 2) (by simp); have sy3 := sm.cellAt (i := 3) (by simp); simp at sy0 sy1 sy2 sy3; have zzs := es.size; have n0s : wA.heap.size ≠ w.heap.size := (by omega); have n1s : wA.heap.size ≠ w.heap.size + 1 := (by omega); (first | (have kA := Blk.keep (Blk.new _ _ _) hA; have kA0 := kA.cellAt (i := 0) (by simp); have kA1 := kA.cellAt (i := 1) (by simp); have kA2 := kA.cellAt (i := 2) (by simp); have kA3 := kA.cellAt (i := 3) (by simp); have kA4 := kA.cellAt (i := 4) (by simp); have kA5 := kA.cellAt (i := 5) (by simp); have kA6 := kA.cellAt (i := 6) (by simp); simp at kA0 kA1 kA2 kA3 kA4 kA5 kA6; have kAf := kA.free; have kAl := kA.lt; (try simp only [heap_size_drewL] at kAf kAl)) | (have kA := Blk.keep (Blk.drew (Blk.new _ _ _)) hA; have kA0 := kA.cellAt (i := 0) (by simp); have kA1 := kA.cellAt (i := 1) (by simp); have kA2 := kA.cellAt (i := 2) (by simp); have kA3 := kA.cellAt (i := 3) (by simp); have kA4 := kA.cellAt (i := 4) (by simp); have kA5 := kA.cellAt (i := 5) (by simp); have kA6 := kA.cellAt (i := 6) (by simp); simp at kA0 kA1 kA2 kA3 kA4 kA5 kA6; have kAf := kA.free; have kAl := kA.lt; (try simp only [heap_size_drewL] at kAf kAl)) | skip))
      | (go_at_call 27; refine (laws_toMove x _).mono ?_; rintro e wB ⟨rfl, hB⟩; have et : Ext w1 wB := (by (repeat (first | exact Ext.refl _ | assumption | refine Ext.alloc ?_ _ | refine Ext.drew ?_ | refine Ext.drewN ?_ _ | refine Ext.setCell ?_ (by first | (simp; done) | (simp; omega)) _ | refine Ext.trans ?_ (by assumption)))); obtain ⟨t0, t1, t2, t3, t4, t5, t6⟩ := (BA.out.keep et).cell; simp only at t0 t1 t2 t3 t4 t5 t6; have tm := BS.out.keep et; have ty0 := tm.cellAt (i := 0) (by simp); have ty1 := tm.cellAt (i := 1) (by simp); have ty2 := tm.cellAt (i := 2) (by simp); have ty3 := tm.cellAt (i := 3) (by simp); simp at ty0 ty1 ty2 ty3; have zzt := et.size; have n0t : wB.heap.size ≠ w.heap.size := (by omega); have n1t : wB.heap.size ≠ w.heap.size + 1 := (by omega); (first | (have kB := Blk.keep kA hB; have kB0 := kB.cellAt (i := 0) (by simp); have kB1 := kB.cellAt (i := 1) (by simp); have kB2 := kB.cellAt (i := 2) (by simp); have kB3 := kB.cellAt (i := 3) (by simp); have kB4 := kB.cellAt (i := 4) (by simp); have kB5 := kB.cellAt (i := 5) (by simp); have kB6 := kB.cellAt (i := 6) (by simp); simp at kB0 kB1 kB2 kB3 kB4 kB5 kB6; have kBf := kB.free; have kBl := kB.lt; (try simp only [heap_size_drewL] at kBf kBl)) | (have kB := Blk.keep (Blk.new _ _ _) hB; have kB0 := kB.cellAt (i := 0) (by simp); have kB1 := kB.cellAt (i := 1) (by simp); have kB2 := kB.cellAt (i := 2) (by simp); have kB3 := kB.cellAt (i := 3) (by simp); have kB4 := kB.cellAt (i := 4) (by simp); have kB5 := kB.cellAt (i := 5) (by simp); have kB6 := kB.cellAt (i := 6) (by simp); simp at kB0 kB1 kB2 kB3 kB4 kB5 kB6; have kBf := kB.free; have kBl := kB.lt; (try simp only [heap_size_drewL] at kBf kBl)) | skip))
      | (go_at_call 25; refine (cS.out (⟨Hh, ⟨(some ⟨pd, 0, none⟩), n0, n0⟩, ⟨(some ⟨pf, 0, none⟩), n1, n1⟩, ⟨(some ⟨pp, 0, none⟩), n2, n2⟩, ⟨(some ⟨pg, 0, none⟩), n3, n3⟩, day, ⟨(some ⟨pr, 0, none⟩), n4, n4⟩⟩ : MV) _ (oA.rd.keep (by first | exact hB | exact Ext.trans ((Ext.refl _).alloc _) hB | exact hB.alloc _)) (MFit.of_own oA d0 d1 d2 d3 d4)).mono ?_; rintro e wC ⟨vW, hev, hC, oC⟩; obtain ⟨HW, ⟨AW0, nW0, kW0⟩, ⟨AW1, nW1, kW1⟩, ⟨AW2, nW2, kW2⟩, ⟨AW3, nW3, kW3⟩, dW, ⟨AW4, nW4, kW4⟩⟩ := vW; simp only [MV.val, MV.cells] at hev; subst hev; have eu : Ext w1 wC := (by (repeat (first | exact Ext.refl _ | assumption | refine Ext.alloc ?_ _ | refine Ext.drew ?_ | refine Ext.drewN ?_ _ | refine Ext.setCell ?_ (by first | (simp; done) | (simp; omega)) _ | refine Ext.trans ?_ (by assumption)))); obtain ⟨u0, u1, u2, u3, u4, u5, u6⟩ := (BA.out.keep eu).cell; simp only at u0 u1 u2 u3 u4 u5 u6; have um := BS.out.keep eu; have uy0 := um.cellAt (i := 0) (by simp); have uy1 := um.cellAt (i := 1) (by simp); have uy2 := um.cellAt (i := 2) (by simp); have uy3 := um.cellAt (i := 3) (by simp); simp at uy0 uy1 uy2 uy3; have zzu := eu.size; have n0u : wC.heap.size ≠ w.heap.size := (by omega); have n1u : wC.heap.size ≠ w.heap.size + 1 := (by omega); (first | (have kC := Blk.keep kB hC; have kC0 := kC.cellAt (i := 0) (by simp); have kC1 := kC.cellAt (i := 1) (by simp); have kC2 := kC.cellAt (i := 2) (by simp); have kC3 := kC.cellAt (i := 3) (by simp); have kC4 := kC.cellAt (i := 4) (by simp); have kC5 := kC.cellAt (i := 5) (by simp); have kC6 := kC.cellAt (i := 6) (by simp); simp at kC0 kC1 kC2 kC3 kC4 kC5 kC6; have kCf := kC.free; have kCl := kC.lt; (try simp only [heap_size_drewL] at kCf kCl)) | (have kC := Blk.keep (Blk.new _ _ _) hC; have kC0 := kC.cellAt (i := 0) (by simp); have kC1 := kC.cellAt (i := 1) (by simp); have kC2 := kC.cellAt (i := 2) (by simp); have kC3 := kC.cellAt (i := 3) (by simp); have kC4 := kC.cellAt (i := 4) (by simp); have kC5 := kC.cellAt (i := 5) (by simp); have kC6 := kC.cellAt (i := 6) (by simp); simp at kC0 kC1 kC2 kC3 kC4 kC5 kC6; have kCf := kC.free; have kCl := kC.lt; (try simp only [heap_size_drewL] at kCf kCl)) | skip)))
    all_goals go_wp2_with fail
    all_goals go_meet
    all_goals first
      | (have hG := Got.of oC hC kC (show Ext w1 _ from (by (repeat (first | exact Ext.refl _ | assumption | refine Ext.alloc ?_ _ | refine Ext.drew ?_ | refine Ext.drewN ?_ _ | refine Ext.setCell ?_ (by first | (simp; done) | (simp; omega)) _ | refine Ext.trans ?_ (by assumption))))) (Ext.refl _) (by omega) (by first | exact .inl kBl | exact .inl (by simp)); with_reducible exact ⟨_, _, _, _, rfl, rfl, hG⟩)
      | ((fail_if_success (have := kC)); have hG := Got.new (t := 30) oC hC (show Ext w1 _ from (by (repeat (first | exact Ext.refl _ | assumption | refine Ext.alloc ?_ _ | refine Ext.drew ?_ | refine Ext.drewN ?_ _ | refine Ext.setCell ?_ (by first | (simp; done) | (simp; omega)) _ | refine Ext.trans ?_ (by assumption))))); with_reducible exact ⟨_, _, _, _, rfl, rfl, hG⟩)
  case rest =>
  obtain ⟨gW, loW, hiW, ⟨HW, ⟨AW0, nW0, kW0⟩, ⟨AW1, nW1, kW1⟩, ⟨AW2, nW2, kW2⟩, ⟨AW3, nW3, kW3⟩, dW, ⟨AW4, nW4, kW4⟩⟩, rfl, rfl, hG⟩ := hcut
  obtain ⟨w4, rfl⟩ : ∃ x, x = wc := ⟨_, rfl⟩
  have BW := Lib.hid hG.box
  have OW := Lib.hid hG.own
  have MW := Lib.hid hG.rows
  have zgW := hG.g1
  have zlW := hG.l1
  have zhW := hG.h1
  have zoW := hG.o1
  have zbW : gW < w4.heap.size := hG.box.lt
  have z4 : w1.heap.size ≤ w4.heap.size := hG.e.size
  have FW := Lib.hid (night_fit hG.own HX.out d0 d1 d2 d3 d4)
  have E := Lib.hid (E.out.trans hG.e)
  have BA := Lib.hid (BA.out.keep hG.e)
  have BS := Lib.hid (BS.out.keep hG.e)
  clear hG
  clear b0 b1 b2 b3 b4 b5 b6
  clear xc0 xc1 xc2 xc3
  have zb : wb.heap.size ≤ w4.heap.size := E.out.size
  obtain ⟨b0, b1, b2, b3, b4, b5, b6⟩ := BA.out.cell
  simp only at b0 b1 b2 b3 b4 b5 b6
  go_wp2_with (go_at_call 26; refine (fun h : Hid _ => h.out) ?_)
  unfold Hid
  refine (cT.out _ E.out d0 d1 d2 d3 d4).mono ?_
  rintro e w5 ⟨xd, xf, xp, xg, xr, he, h5, o5⟩
  simp only [MV.val, MV.cells] at he
  subst he
  have E := Lib.hid (E.out.trans h5)
  have BA := Lib.hid (BA.out.keep h5)
  have BS := Lib.hid (BS.out.keep h5)
  have BW := Lib.hid (BW.out.keep h5)
  have OW := Lib.hid (OW.out.keep h5)
  have Ox := Lib.hid o5
  have Mx := Lib.hid (MAt.of_own o5)
  have z5 : w4.heap.size ≤ w5.heap.size := h5.size
  clear h5 o5
  clear b0 b1 b2 b3 b4 b5 b6
  obtain ⟨w6, hw6⟩ : ∃ w6, w6 = w5.alloc (.cells #[.int .i64 Hh, .slice (some ⟨xd, 0, none⟩) n0 n0, .slice (some ⟨xf, 0, none⟩) n1 n1, .slice (some ⟨xp, 0, none⟩) n2 n2, .slice (some ⟨xg, 0, none⟩) n3 n3, .int .i64 day, .slice (some ⟨xr, 0, none⟩) n4 n4] 30) := ⟨_, rfl⟩
  have BX := Lib.hid (MBox.new (v := (⟨Hh, ⟨(some ⟨xd, 0, none⟩), n0, n0⟩, ⟨(some ⟨xf, 0, none⟩), n1, n1⟩, ⟨(some ⟨xp, 0, none⟩), n2, n2⟩, ⟨(some ⟨xg, 0, none⟩), n3, n3⟩, day, ⟨(some ⟨xr, 0, none⟩), n4, n4⟩⟩ : MV)) hw6)
  have hk6 : Ext w5 w6 := by rw [hw6]; exact (Ext.refl _).alloc _
  have E := Lib.hid (E.out.trans hk6)
  have BA := Lib.hid (BA.out.keep hk6)
  have BS := Lib.hid (BS.out.keep hk6)
  have BW := Lib.hid (BW.out.keep hk6)
  have OW := Lib.hid (OW.out.keep hk6)
  have Ox := Lib.hid (Ox.out.keep hk6)
  have HW6 := Lib.hid hw6
  have z6 : w5.heap.size < w6.heap.size := BX.out.lt
  clear hk6 hw6
  go_upto_region 7 with fail
  rw [← HW6.out]
  obtain ⟨b0, b1, b2, b3, b4, b5, b6⟩ := BX.out.cell
  simp only at b0 b1 b2 b3 b4 b5 b6
  have xc0 := BS.out.cellAt (i := 0) (by simp)
  have xc1 := BS.out.cellAt (i := 1) (by simp)
  have xc2 := BS.out.cellAt (i := 2) (by simp)
  have xc3 := BS.out.cellAt (i := 3) (by simp)
  simp at xc0 xc1 xc2 xc3
  go_cut [9, 10] (fun p q wx => ∃ (g lo hi : Nat) (v : MV), p = .pointer (some ⟨g, 0, none⟩) ∧ q = .bool bd ∧ Got w6 wx g lo hi v (nightM m x))
  case first =>
    have zs : w.heap.size + 1 < w6.heap.size := BS.out.lt
    have ne0 : w6.heap.size ≠ w.heap.size := by omega
    have ne1 : w6.heap.size ≠ w.heap.size + 1 := by omega
    have zx : w5.heap.size < w6.heap.size := BX.out.lt
    have ne2 : w6.heap.size ≠ w5.heap.size := by omega
    go_region_held3 (fun w' => w'.cell? ⟨w5.heap.size, 0, none⟩ = some (.int .i64 Hh) ∧ w'.cell? ⟨w5.heap.size, 1, none⟩ = some (.slice (some ⟨xd, 0, none⟩) n0 n0) ∧ w'.cell? ⟨w5.heap.size, 2, none⟩ = some (.slice (some ⟨xf, 0, none⟩) n1 n1) ∧ w'.cell? ⟨w5.heap.size, 3, none⟩ = some (.slice (some ⟨xp, 0, none⟩) n2 n2) ∧ w'.cell? ⟨w5.heap.size, 4, none⟩ = some (.slice (some ⟨xg, 0, none⟩) n3 n3) ∧ w'.cell? ⟨w5.heap.size, 5, none⟩ = some (.int .i64 day) ∧ w'.cell? ⟨w5.heap.size, 6, none⟩ = some (.slice (some ⟨xr, 0, none⟩) n4 n4) ∧ w'.cell? ⟨w.heap.size + 1, 0, none⟩ = some (.int .i64 x.o) ∧ w'.cell? ⟨w.heap.size + 1, 1, none⟩ = some (.int .i64 x.t) ∧ w'.cell? ⟨w.heap.size + 1, 2, none⟩ = some (.int .i64 x.f) ∧ w'.cell? ⟨w.heap.size + 1, 3, none⟩ = some (.int .i64 x.s)) (go_keep) (first
      | (go_at_call 27; refine (laws_toMove x _).mono ?_; rintro e wB ⟨rfl, hB⟩; have et : Ext w6 wB := (by (repeat (first | exact Ext.refl _ | assumption | refine Ext.alloc ?_ _ | refine Ext.drew ?_ | refine Ext.drewN ?_ _ | refine Ext.setCell ?_ (by first | (simp; done) | (simp; omega)) _ | refine Ext.trans ?_ (by assumption)))); obtain ⟨t0, t1, t2, t3, t4, t5, t6⟩ := (BX.out.keep et).cell; simp only at t0 t1 t2 t3 t4 t5 t6; have tm := BS.out.keep et; have ty0 := tm.cellAt (i := 0) (by simp); have ty1 := tm.cellAt (i := 1) (by simp); have ty2 := tm.cellAt (i := 2) (by simp); have ty3 := tm.cellAt (i := 3) (by simp); simp at ty0 ty1 ty2 ty3; have zzt := et.size; have n0t : wB.heap.size ≠ w.heap.size := (by omega); have n1t : wB.heap.size ≠ w.heap.size + 1 := (by omega); have n2t : wB.heap.size ≠ w5.heap.size := (by omega); (first | (have kB := Blk.keep (Blk.new _ _ _) hB; have kB0 := kB.cellAt (i := 0) (by simp); have kB1 := kB.cellAt (i := 1) (by simp); have kB2 := kB.cellAt (i := 2) (by simp); have kB3 := kB.cellAt (i := 3) (by simp); have kB4 := kB.cellAt (i := 4) (by simp); have kB5 := kB.cellAt (i := 5) (by simp); have kB6 := kB.cellAt (i := 6) (by simp); simp at kB0 kB1 kB2 kB3 kB4 kB5 kB6; have kBf := kB.free; have kBl := kB.lt; (try simp only [heap_size_drewL] at kBf kBl)) | (have kB := Blk.keep (Blk.drew (Blk.new _ _ _)) hB; have kB0 := kB.cellAt (i := 0) (by simp); have kB1 := kB.cellAt (i := 1) (by simp); have kB2 := kB.cellAt (i := 2) (by simp); have kB3 := kB.cellAt (i := 3) (by simp); have kB4 := kB.cellAt (i := 4) (by simp); have kB5 := kB.cellAt (i := 5) (by simp); have kB6 := kB.cellAt (i := 6) (by simp); simp at kB0 kB1 kB2 kB3 kB4 kB5 kB6; have kBf := kB.free; have kBl := kB.lt; (try simp only [heap_size_drewL] at kBf kBl)) | skip))
      | (go_at_call 28; refine (cI.out (⟨Hh, ⟨(some ⟨xd, 0, none⟩), n0, n0⟩, ⟨(some ⟨xf, 0, none⟩), n1, n1⟩, ⟨(some ⟨xp, 0, none⟩), n2, n2⟩, ⟨(some ⟨xg, 0, none⟩), n3, n3⟩, day, ⟨(some ⟨xr, 0, none⟩), n4, n4⟩⟩ : MV) _ (Ox.out.rd.keep (by (repeat (first | exact Ext.refl _ | assumption | refine Ext.alloc ?_ _ | refine Ext.drew ?_ | refine Ext.drewN ?_ _ | refine Ext.setCell ?_ (by first | (simp; done) | (simp; omega)) _ | refine Ext.trans ?_ (by assumption))))) (MFit.of_own Ox.out d0 d1 d2 d3 d4)).mono ?_; rintro e wC ⟨vG, hev, hC, oC⟩; obtain ⟨HG, ⟨AG0, nG0, kG0⟩, ⟨AG1, nG1, kG1⟩, ⟨AG2, nG2, kG2⟩, ⟨AG3, nG3, kG3⟩, dG, ⟨AG4, nG4, kG4⟩⟩ := vG; simp only [MV.val, MV.cells] at hev; subst hev; have eu : Ext w6 wC := (by (repeat (first | exact Ext.refl _ | assumption | refine Ext.alloc ?_ _ | refine Ext.drew ?_ | refine Ext.drewN ?_ _ | refine Ext.setCell ?_ (by first | (simp; done) | (simp; omega)) _ | refine Ext.trans ?_ (by assumption)))); obtain ⟨u0, u1, u2, u3, u4, u5, u6⟩ := (BX.out.keep eu).cell; simp only at u0 u1 u2 u3 u4 u5 u6; have um := BS.out.keep eu; have uy0 := um.cellAt (i := 0) (by simp); have uy1 := um.cellAt (i := 1) (by simp); have uy2 := um.cellAt (i := 2) (by simp); have uy3 := um.cellAt (i := 3) (by simp); simp at uy0 uy1 uy2 uy3; have zzu := eu.size; have n0u : wC.heap.size ≠ w.heap.size := (by omega); have n1u : wC.heap.size ≠ w.heap.size + 1 := (by omega); have n2u : wC.heap.size ≠ w5.heap.size := (by omega); (first | (have kC := Blk.keep kB hC; have kC0 := kC.cellAt (i := 0) (by simp); have kC1 := kC.cellAt (i := 1) (by simp); have kC2 := kC.cellAt (i := 2) (by simp); have kC3 := kC.cellAt (i := 3) (by simp); have kC4 := kC.cellAt (i := 4) (by simp); have kC5 := kC.cellAt (i := 5) (by simp); have kC6 := kC.cellAt (i := 6) (by simp); simp at kC0 kC1 kC2 kC3 kC4 kC5 kC6; have kCf := kC.free; have kCl := kC.lt; (try simp only [heap_size_drewL] at kCf kCl)) | (have kC := Blk.keep (Blk.new _ _ _) hC; have kC0 := kC.cellAt (i := 0) (by simp); have kC1 := kC.cellAt (i := 1) (by simp); have kC2 := kC.cellAt (i := 2) (by simp); have kC3 := kC.cellAt (i := 3) (by simp); have kC4 := kC.cellAt (i := 4) (by simp); have kC5 := kC.cellAt (i := 5) (by simp); have kC6 := kC.cellAt (i := 6) (by simp); simp at kC0 kC1 kC2 kC3 kC4 kC5 kC6; have kCf := kC.free; have kCl := kC.lt; (try simp only [heap_size_drewL] at kCf kCl)) | skip)))
    all_goals go_wp2_with fail
    all_goals go_meet
    all_goals first
      | (have hG := Got.of oC hC kC (show Ext w6 _ from (by (repeat (first | exact Ext.refl _ | assumption | refine Ext.alloc ?_ _ | refine Ext.drew ?_ | refine Ext.drewN ?_ _ | refine Ext.setCell ?_ (by first | (simp; done) | (simp; omega)) _ | refine Ext.trans ?_ (by assumption))))) (Ext.refl _) (by omega) (by first | exact .inl kBl | exact .inl (by simp)); with_reducible exact ⟨_, _, _, _, rfl, rfl, hG⟩)
      | ((fail_if_success (have := kC)); have hG := Got.new (t := 30) oC hC (show Ext w6 _ from (by (repeat (first | exact Ext.refl _ | assumption | refine Ext.alloc ?_ _ | refine Ext.drew ?_ | refine Ext.drewN ?_ _ | refine Ext.setCell ?_ (by first | (simp; done) | (simp; omega)) _ | refine Ext.trans ?_ (by assumption))))); with_reducible exact ⟨_, _, _, _, rfl, rfl, hG⟩)
  case rest =>
  obtain ⟨gG, loG, hiG, ⟨HG, ⟨AG0, nG0, kG0⟩, ⟨AG1, nG1, kG1⟩, ⟨AG2, nG2, kG2⟩, ⟨AG3, nG3, kG3⟩, dG, ⟨AG4, nG4, kG4⟩⟩, rfl, rfl, hG⟩ := hcut
  obtain ⟨w8, rfl⟩ : ∃ x, x = wc := ⟨_, rfl⟩
  have BG := Lib.hid hG.box
  have OG := Lib.hid hG.own
  have MG := Lib.hid hG.rows
  have zgG := hG.g1
  have zlG := hG.l1
  have zhG := hG.h1
  have zoG := hG.o1
  have zbG : gG < w8.heap.size := hG.box.lt
  have z8 : w6.heap.size ≤ w8.heap.size := hG.e.size
  have FG := Lib.hid (night_fit hG.own HX.out d0 d1 d2 d3 d4)
  have E := Lib.hid (E.out.trans hG.e)
  have BA := Lib.hid (BA.out.keep hG.e)
  have BS := Lib.hid (BS.out.keep hG.e)
  have BW := Lib.hid (BW.out.keep hG.e)
  have OW := Lib.hid (OW.out.keep hG.e)
  have Ox := Lib.hid (Ox.out.keep hG.e)
  have BX := Lib.hid (BX.out.keep hG.e)
  clear hG
  clear b0 b1 b2 b3 b4 b5 b6
  clear xc0 xc1 xc2 xc3
  obtain ⟨b0, b1, b2, b3, b4, b5, b6⟩ := BG.out.cell
  simp only at b0 b1 b2 b3 b4 b5 b6
  obtain ⟨y0, y1, y2, y3, y4, y5, y6⟩ := BW.out.cell
  simp only at y0 y1 y2 y3 y4 y5 y6
  go_wp2_with (go_at_call 29; refine (fun h : Hid _ => h.out) ?_)
  unfold Hid
  refine (laws_eqMuseum (⟨HG, ⟨AG0, nG0, kG0⟩, ⟨AG1, nG1, kG1⟩, ⟨AG2, nG2, kG2⟩, ⟨AG3, nG3, kG3⟩, dG, ⟨AG4, nG4, kG4⟩⟩ : MV) (⟨HW, ⟨AW0, nW0, kW0⟩, ⟨AW1, nW1, kW1⟩, ⟨AW2, nW2, kW2⟩, ⟨AW3, nW3, kW3⟩, dW, ⟨AW4, nW4, kW4⟩⟩ : MV) (nightM m x) w8 OG.out.rd OW.out.rd).mono ?_
  rintro e w9 ⟨rfl, h9⟩
  have E := Lib.hid (E.out.trans h9)
  have BA := Lib.hid (BA.out.keep h9)
  have BS := Lib.hid (BS.out.keep h9)
  have BW := Lib.hid (BW.out.keep h9)
  have OW := Lib.hid (OW.out.keep h9)
  have Ox := Lib.hid (Ox.out.keep h9)
  have BX := Lib.hid (BX.out.keep h9)
  have BG := Lib.hid (BG.out.keep h9)
  have OG := Lib.hid (OG.out.keep h9)
  have z9 : w8.heap.size ≤ w9.heap.size := h9.size
  clear h9
  clear b0 b1 b2 b3 b4 b5 b6 y0 y1 y2 y3 y4 y5 y6
  go_wp2_with fail
  obtain ⟨b0, b1, b2, b3, b4, b5, b6⟩ := BA.out.cell
  simp only at b0 b1 b2 b3 b4 b5 b6
  obtain ⟨y0, y1, y2, y3, y4, y5, y6⟩ := BX.out.cell
  simp only at y0 y1 y2 y3 y4 y5 y6
  go_region_held3 (fun w' => w'.cell? ⟨w.heap.size, 0, none⟩ = some (.int .i64 Hh) ∧ w'.cell? ⟨w.heap.size, 1, none⟩ = some (.slice A0 n0 c0) ∧ w'.cell? ⟨w.heap.size, 2, none⟩ = some (.slice A1 n1 c1) ∧ w'.cell? ⟨w.heap.size, 3, none⟩ = some (.slice A2 n2 c2) ∧ w'.cell? ⟨w.heap.size, 4, none⟩ = some (.slice A3 n3 c3) ∧ w'.cell? ⟨w.heap.size, 5, none⟩ = some (.int .i64 day) ∧ w'.cell? ⟨w.heap.size, 6, none⟩ = some (.slice A4 n4 c4) ∧ w'.cell? ⟨w5.heap.size, 0, none⟩ = some (.int .i64 Hh) ∧ w'.cell? ⟨w5.heap.size, 1, none⟩ = some (.slice (some ⟨xd, 0, none⟩) n0 n0) ∧ w'.cell? ⟨w5.heap.size, 2, none⟩ = some (.slice (some ⟨xf, 0, none⟩) n1 n1) ∧ w'.cell? ⟨w5.heap.size, 3, none⟩ = some (.slice (some ⟨xp, 0, none⟩) n2 n2) ∧ w'.cell? ⟨w5.heap.size, 4, none⟩ = some (.slice (some ⟨xg, 0, none⟩) n3 n3) ∧ w'.cell? ⟨w5.heap.size, 5, none⟩ = some (.int .i64 day) ∧ w'.cell? ⟨w5.heap.size, 6, none⟩ = some (.slice (some ⟨xr, 0, none⟩) n4 n4)) (go_keep) (first
    | (go_at_call 26; refine (cT.out _ (E.out.trans ((Ext.refl _).drewN 1)) d0 d1 d2 d3 d4).mono ?_; rintro e w10 ⟨yd, yf, yp, yg, yr, he, h10, o10⟩; simp only [MV.val, MV.cells] at he; subst he; obtain ⟨s0, s1, s2, s3, s4, s5, s6⟩ := (BA.out.keep (Ext.trans ((Ext.refl _).drewN 1) h10)).cell; obtain ⟨t0, t1, t2, t3, t4, t5, t6⟩ := (BX.out.keep (Ext.trans ((Ext.refl _).drewN 1) h10)).cell; simp only at s0 s1 s2 s3 s4 s5 s6 t0 t1 t2 t3 t4 t5 t6)
    | (go_at_call 29; refine (laws_eqMuseum _ _ m _ (Ox.out.rd.keep (Ext.trans ((Ext.refl _).drewN 1) h10)) o10.rd).mono ?_; rintro e w11 ⟨rfl, h11⟩; obtain ⟨s0, s1, s2, s3, s4, s5, s6⟩ := (BA.out.keep ((Ext.trans ((Ext.refl _).drewN 1) h10).trans h11)).cell; obtain ⟨t0, t1, t2, t3, t4, t5, t6⟩ := (BX.out.keep ((Ext.trans ((Ext.refl _).drewN 1) h10).trans h11)).cell; simp only at s0 s1 s2 s3 s4 s5 s6 t0 t1 t2 t3 t4 t5 t6))
  have hX : Ext w9 w11 := ((Ext.trans ((Ext.refl _).drewN 1) h10).trans h11)
  have E := Lib.hid (E.out.trans hX)
  have BA := Lib.hid (BA.out.keep hX)
  have BS := Lib.hid (BS.out.keep hX)
  have BW := Lib.hid (BW.out.keep hX)
  have OW := Lib.hid (OW.out.keep hX)
  have Ox := Lib.hid (Ox.out.keep hX)
  have BX := Lib.hid (BX.out.keep hX)
  have BG := Lib.hid (BG.out.keep hX)
  have OG := Lib.hid (OG.out.keep hX)
  have z11 : w9.heap.size ≤ w11.heap.size := hX.size
  clear hX h10 h11 o10
  clear b0 b1 b2 b3 b4 b5 b6 y0 y1 y2 y3 y4 y5 y6 s0 s1 s2 s3 s4 s5 s6 t0 t1 t2 t3 t4 t5 t6
  have fitx := Lib.hid (MFit.of_own Ox.out d0 d1 d2 d3 d4)
  obtain ⟨b0, b1, b2, b3, b4, b5, b6⟩ := BX.out.cell
  simp only at b0 b1 b2 b3 b4 b5 b6
  go_wp2_with (go_at_call 30; refine (fun h : Hid _ => h.out) ?_)
  unfold Hid
  obtain ⟨kx, hkx⟩ : ∃ z, z = markEnd 1 (⟨Hh, ⟨(some ⟨xd, 0, none⟩), n0, n0⟩, ⟨(some ⟨xf, 0, none⟩), n1, n1⟩, ⟨(some ⟨xp, 0, none⟩), n2, n2⟩, ⟨(some ⟨xg, 0, none⟩), n3, n3⟩, day, ⟨(some ⟨xr, 0, none⟩), n4, n4⟩⟩ : MV) := ⟨_, rfl⟩
  have nkx : ¬ kx < 0 := by rw [hkx]; exact markEnd_nn
  refine (laws_markMuseum (⟨Hh, ⟨(some ⟨xd, 0, none⟩), n0, n0⟩, ⟨(some ⟨xf, 0, none⟩), n1, n1⟩, ⟨(some ⟨xp, 0, none⟩), n2, n2⟩, ⟨(some ⟨xg, 0, none⟩), n3, n3⟩, day, ⟨(some ⟨xr, 0, none⟩), n4, n4⟩⟩ : MV) m 1 w4.heap.size w5.heap.size w11 Ox.out Mx.out fitx.out (by omega) (by omega) (by omega)).mono ?_
  rintro e w12 ⟨he, o12, k12⟩
  rw [← hkx] at he
  subst he
  have E := Lib.hid (k12.ext E.out (by omega))
  have z12 : w11.heap.size ≤ w12.heap.size := k12.size
  clear b0 b1 b2 b3 b4 b5 b6
  have BA := Lib.hid (BA.out.out k12 (.inl (by omega)))
  have BS := Lib.hid (BS.out.outK k12 (.inl (by omega)))
  have BW := Lib.hid (BW.out.out k12 (.inl (by omega)))
  have BG := Lib.hid (BG.out.out k12 (.inr (by omega)))
  have OW := Lib.hid (OW.out.below k12 (MW.out.mono (Nat.le_refl _) (by omega)))
  have OG := Lib.hid (OG.out.out k12 (by omega))
  clear k12 o12 BX Ox hkx
  obtain ⟨b0, b1, b2, b3, b4, b5, b6⟩ := BG.out.cell
  simp only at b0 b1 b2 b3 b4 b5 b6
  obtain ⟨y0, y1, y2, y3, y4, y5, y6⟩ := BW.out.cell
  simp only at y0 y1 y2 y3 y4 y5 y6
  go_wp2_with (go_at_call 29; refine (fun h : Hid _ => h.out) ?_)
  unfold Hid
  refine (laws_eqMuseum (⟨HG, ⟨AG0, nG0, kG0⟩, ⟨AG1, nG1, kG1⟩, ⟨AG2, nG2, kG2⟩, ⟨AG3, nG3, kG3⟩, dG, ⟨AG4, nG4, kG4⟩⟩ : MV) (⟨HW, ⟨AW0, nW0, kW0⟩, ⟨AW1, nW1, kW1⟩, ⟨AW2, nW2, kW2⟩, ⟨AW3, nW3, kW3⟩, dW, ⟨AW4, nW4, kW4⟩⟩ : MV) (nightM m x) w12 OG.out.rd OW.out.rd).mono ?_
  rintro e w13 ⟨rfl, h13⟩
  have E := Lib.hid (E.out.trans h13)
  have BA := Lib.hid (BA.out.keep h13)
  have BS := Lib.hid (BS.out.keep h13)
  have BW := Lib.hid (BW.out.keep h13)
  have BG := Lib.hid (BG.out.keep h13)
  have OW := Lib.hid (OW.out.keep h13)
  have OG := Lib.hid (OG.out.keep h13)
  have z13 : w12.heap.size ≤ w13.heap.size := h13.size
  clear h13
  clear b0 b1 b2 b3 b4 b5 b6 y0 y1 y2 y3 y4 y5 y6
  obtain ⟨b0, b1, b2, b3, b4, b5, b6⟩ := BG.out.cell
  simp only at b0 b1 b2 b3 b4 b5 b6
  go_wp2_with (go_at_call 30; refine (fun h : Hid _ => h.out) ?_)
  unfold Hid
  obtain ⟨kg, hkg⟩ : ∃ z, z = markEnd 1 (⟨HG, ⟨AG0, nG0, kG0⟩, ⟨AG1, nG1, kG1⟩, ⟨AG2, nG2, kG2⟩, ⟨AG3, nG3, kG3⟩, dG, ⟨AG4, nG4, kG4⟩⟩ : MV) := ⟨_, rfl⟩
  have nkg : ¬ kg < 0 := by rw [hkg]; exact markEnd_nn
  refine (laws_markMuseum (⟨HG, ⟨AG0, nG0, kG0⟩, ⟨AG1, nG1, kG1⟩, ⟨AG2, nG2, kG2⟩, ⟨AG3, nG3, kG3⟩, dG, ⟨AG4, nG4, kG4⟩⟩ : MV) (nightM m x) 1 loG hiG w13 OG.out MG.out FG.out (by omega) (by omega) (by omega)).mono ?_
  rintro e w14 ⟨he, o14, k14⟩
  rw [← hkg] at he
  subst he
  have E := Lib.hid (k14.ext E.out (by omega))
  have z14 : w13.heap.size ≤ w14.heap.size := k14.size
  clear b0 b1 b2 b3 b4 b5 b6
  have BA := Lib.hid (BA.out.out k14 (.inl (by omega)))
  have BS := Lib.hid (BS.out.outK k14 (.inl (by omega)))
  have BW := Lib.hid (BW.out.out k14 (.inl (by omega)))
  have BG := Lib.hid (BG.out.out k14 zoG)
  have OW := Lib.hid (OW.out.below k14 (MW.out.mono (Nat.le_refl _) (by omega)))
  have OM := Lib.hid o14
  have HKG := Lib.hid hkg
  clear k14 o14 OG hkg
  obtain ⟨b0, b1, b2, b3, b4, b5, b6⟩ := BG.out.cell
  simp only at b0 b1 b2 b3 b4 b5 b6
  go_wp2_with (go_at_call 31; refine (fun h : Hid _ => h.out) ?_)
  unfold Hid
  refine (laws_heldMuseum (⟨HG, ⟨AG0, nG0, kG0⟩, ⟨AG1, nG1, kG1⟩, ⟨AG2, nG2, kG2⟩, ⟨AG3, nG3, kG3⟩, dG, ⟨AG4, nG4, kG4⟩⟩ : MV) (nightM m x) 1 w14 OM.out.rd FG.out (by omega) (by omega)).mono ?_
  rintro e w15 ⟨he, h15⟩
  rw [← HKG.out] at he
  subst he
  have E := Lib.hid (E.out.trans h15)
  have BA := Lib.hid (BA.out.keep h15)
  have BS := Lib.hid (BS.out.keep h15)
  have BW := Lib.hid (BW.out.keep h15)
  have BG := Lib.hid (BG.out.keep h15)
  have OW := Lib.hid (OW.out.keep h15)
  have OM := Lib.hid (OM.out.keep h15)
  have z15 : w14.heap.size ≤ w15.heap.size := h15.size
  clear h15
  clear b0 b1 b2 b3 b4 b5 b6
  go_upto_region 24 with fail
  obtain ⟨b0, b1, b2, b3, b4, b5, b6⟩ := BA.out.cell
  simp only at b0 b1 b2 b3 b4 b5 b6
  have xc0 := BS.out.cellAt (i := 0) (by simp)
  have xc1 := BS.out.cellAt (i := 1) (by simp)
  have xc2 := BS.out.cellAt (i := 2) (by simp)
  have xc3 := BS.out.cellAt (i := 3) (by simp)
  simp at xc0 xc1 xc2 xc3
  go_cut [14, 15] (fun p q wx => ∃ (g lo hi : Nat) (v : MV), p = .pointer (some ⟨g, 0, none⟩) ∧ q = .bool bd ∧ Got w15 wx g lo hi v (nightM m x))
  case first =>
    have zs : w.heap.size + 1 < w15.heap.size := BS.out.lt
    have ne0 : w15.heap.size ≠ w.heap.size := by omega
    have ne1 : w15.heap.size ≠ w.heap.size + 1 := by omega
    go_region_held3 (fun w' => w'.cell? ⟨w.heap.size, 0, none⟩ = some (.int .i64 Hh) ∧ w'.cell? ⟨w.heap.size, 1, none⟩ = some (.slice A0 n0 c0) ∧ w'.cell? ⟨w.heap.size, 2, none⟩ = some (.slice A1 n1 c1) ∧ w'.cell? ⟨w.heap.size, 3, none⟩ = some (.slice A2 n2 c2) ∧ w'.cell? ⟨w.heap.size, 4, none⟩ = some (.slice A3 n3 c3) ∧ w'.cell? ⟨w.heap.size, 5, none⟩ = some (.int .i64 day) ∧ w'.cell? ⟨w.heap.size, 6, none⟩ = some (.slice A4 n4 c4) ∧ w'.cell? ⟨w.heap.size + 1, 0, none⟩ = some (.int .i64 x.o) ∧ w'.cell? ⟨w.heap.size + 1, 1, none⟩ = some (.int .i64 x.t) ∧ w'.cell? ⟨w.heap.size + 1, 2, none⟩ = some (.int .i64 x.f) ∧ w'.cell? ⟨w.heap.size + 1, 3, none⟩ = some (.int .i64 x.s)) (go_keep) (first
      | (go_at_call 26; refine (cT.out _ (E.out.trans (by (repeat (first | exact Ext.refl _ | assumption | refine Ext.alloc ?_ _ | refine Ext.drew ?_ | refine Ext.drewN ?_ _ | refine Ext.setCell ?_ (by first | (simp; done) | (simp; omega)) _ | refine Ext.trans ?_ (by assumption))))) d0 d1 d2 d3 d4).mono ?_; rintro e wA ⟨pd, pf, pp, pg, pr, he, hA, oA⟩; simp only [MV.val, MV.cells] at he; subst he; have es : Ext w15 wA := (by (repeat (first | exact Ext.refl _ | assumption | refine Ext.alloc ?_ _ | refine Ext.drew ?_ | refine Ext.drewN ?_ _ | refine Ext.setCell ?_ (by first | (simp; done) | (simp; omega)) _ | refine Ext.trans ?_ (by assumption)))); obtain ⟨s0, s1, s2, s3, s4, s5, s6⟩ := (BA.out.keep es).cell; simp only at s0 s1 s2 s3 s4 s5 s6; have sm := BS.out.keep es; have sy0 := sm.cellAt (i := 0) (by simp); have sy1 := sm.cellAt (i := 1) (by simp); have sy2 := sm.cellAt (i := 2) (by simp); have sy3 := sm.cellAt (i := 3) (by simp); simp at sy0 sy1 sy2 sy3; have zzs := es.size; have n0s : wA.heap.size ≠ w.heap.size := (by omega); have n1s : wA.heap.size ≠ w.heap.size + 1 := (by omega); (first | (have kA := Blk.keep (Blk.new _ _ _) hA; have kA0 := kA.cellAt (i := 0) (by simp); have kA1 := kA.cellAt (i := 1) (by simp); have kA2 := kA.cellAt (i := 2) (by simp); have kA3 := kA.cellAt (i := 3) (by simp); have kA4 := kA.cellAt (i := 4) (by simp); have kA5 := kA.cellAt (i := 5) (by simp); have kA6 := kA.cellAt (i := 6) (by simp); simp at kA0 kA1 kA2 kA3 kA4 kA5 kA6; have kAf := kA.free; have kAl := kA.lt; (try simp only [heap_size_drewL] at kAf kAl)) | (have kA := Blk.keep (Blk.drew (Blk.new _ _ _)) hA; have kA0 := kA.cellAt (i := 0) (by simp); have kA1 := kA.cellAt (i := 1) (by simp); have kA2 := kA.cellAt (i := 2) (by simp); have kA3 := kA.cellAt (i := 3) (by simp); have kA4 := kA.cellAt (i := 4) (by simp); have kA5 := kA.cellAt (i := 5) (by simp); have kA6 := kA.cellAt (i := 6) (by simp); simp at kA0 kA1 kA2 kA3 kA4 kA5 kA6; have kAf := kA.free; have kAl := kA.lt; (try simp only [heap_size_drewL] at kAf kAl)) | skip))
      | (go_at_call 27; refine (laws_toMove x _).mono ?_; rintro e wB ⟨rfl, hB⟩; have et : Ext w15 wB := (by (repeat (first | exact Ext.refl _ | assumption | refine Ext.alloc ?_ _ | refine Ext.drew ?_ | refine Ext.drewN ?_ _ | refine Ext.setCell ?_ (by first | (simp; done) | (simp; omega)) _ | refine Ext.trans ?_ (by assumption)))); obtain ⟨t0, t1, t2, t3, t4, t5, t6⟩ := (BA.out.keep et).cell; simp only at t0 t1 t2 t3 t4 t5 t6; have tm := BS.out.keep et; have ty0 := tm.cellAt (i := 0) (by simp); have ty1 := tm.cellAt (i := 1) (by simp); have ty2 := tm.cellAt (i := 2) (by simp); have ty3 := tm.cellAt (i := 3) (by simp); simp at ty0 ty1 ty2 ty3; have zzt := et.size; have n0t : wB.heap.size ≠ w.heap.size := (by omega); have n1t : wB.heap.size ≠ w.heap.size + 1 := (by omega); (first | (have kB := Blk.keep kA hB; have kB0 := kB.cellAt (i := 0) (by simp); have kB1 := kB.cellAt (i := 1) (by simp); have kB2 := kB.cellAt (i := 2) (by simp); have kB3 := kB.cellAt (i := 3) (by simp); have kB4 := kB.cellAt (i := 4) (by simp); have kB5 := kB.cellAt (i := 5) (by simp); have kB6 := kB.cellAt (i := 6) (by simp); simp at kB0 kB1 kB2 kB3 kB4 kB5 kB6; have kBf := kB.free; have kBl := kB.lt; (try simp only [heap_size_drewL] at kBf kBl)) | (have kB := Blk.keep (Blk.new _ _ _) hB; have kB0 := kB.cellAt (i := 0) (by simp); have kB1 := kB.cellAt (i := 1) (by simp); have kB2 := kB.cellAt (i := 2) (by simp); have kB3 := kB.cellAt (i := 3) (by simp); have kB4 := kB.cellAt (i := 4) (by simp); have kB5 := kB.cellAt (i := 5) (by simp); have kB6 := kB.cellAt (i := 6) (by simp); simp at kB0 kB1 kB2 kB3 kB4 kB5 kB6; have kBf := kB.free; have kBl := kB.lt; (try simp only [heap_size_drewL] at kBf kBl)) | skip))
      | (go_at_call 28; refine (cI.out (⟨Hh, ⟨(some ⟨pd, 0, none⟩), n0, n0⟩, ⟨(some ⟨pf, 0, none⟩), n1, n1⟩, ⟨(some ⟨pp, 0, none⟩), n2, n2⟩, ⟨(some ⟨pg, 0, none⟩), n3, n3⟩, day, ⟨(some ⟨pr, 0, none⟩), n4, n4⟩⟩ : MV) _ (oA.rd.keep (by first | exact hB | exact Ext.trans ((Ext.refl _).alloc _) hB | exact hB.alloc _)) (MFit.of_own oA d0 d1 d2 d3 d4)).mono ?_; rintro e wC ⟨vU, hev, hC, oC⟩; obtain ⟨HU, ⟨AU0, nU0, kU0⟩, ⟨AU1, nU1, kU1⟩, ⟨AU2, nU2, kU2⟩, ⟨AU3, nU3, kU3⟩, dU, ⟨AU4, nU4, kU4⟩⟩ := vU; simp only [MV.val, MV.cells] at hev; subst hev; have eu : Ext w15 wC := (by (repeat (first | exact Ext.refl _ | assumption | refine Ext.alloc ?_ _ | refine Ext.drew ?_ | refine Ext.drewN ?_ _ | refine Ext.setCell ?_ (by first | (simp; done) | (simp; omega)) _ | refine Ext.trans ?_ (by assumption)))); obtain ⟨u0, u1, u2, u3, u4, u5, u6⟩ := (BA.out.keep eu).cell; simp only at u0 u1 u2 u3 u4 u5 u6; have um := BS.out.keep eu; have uy0 := um.cellAt (i := 0) (by simp); have uy1 := um.cellAt (i := 1) (by simp); have uy2 := um.cellAt (i := 2) (by simp); have uy3 := um.cellAt (i := 3) (by simp); simp at uy0 uy1 uy2 uy3; have zzu := eu.size; have n0u : wC.heap.size ≠ w.heap.size := (by omega); have n1u : wC.heap.size ≠ w.heap.size + 1 := (by omega); (first | (have kC := Blk.keep kB hC; have kC0 := kC.cellAt (i := 0) (by simp); have kC1 := kC.cellAt (i := 1) (by simp); have kC2 := kC.cellAt (i := 2) (by simp); have kC3 := kC.cellAt (i := 3) (by simp); have kC4 := kC.cellAt (i := 4) (by simp); have kC5 := kC.cellAt (i := 5) (by simp); have kC6 := kC.cellAt (i := 6) (by simp); simp at kC0 kC1 kC2 kC3 kC4 kC5 kC6; have kCf := kC.free; have kCl := kC.lt; (try simp only [heap_size_drewL] at kCf kCl)) | (have kC := Blk.keep (Blk.new _ _ _) hC; have kC0 := kC.cellAt (i := 0) (by simp); have kC1 := kC.cellAt (i := 1) (by simp); have kC2 := kC.cellAt (i := 2) (by simp); have kC3 := kC.cellAt (i := 3) (by simp); have kC4 := kC.cellAt (i := 4) (by simp); have kC5 := kC.cellAt (i := 5) (by simp); have kC6 := kC.cellAt (i := 6) (by simp); simp at kC0 kC1 kC2 kC3 kC4 kC5 kC6; have kCf := kC.free; have kCl := kC.lt; (try simp only [heap_size_drewL] at kCf kCl)) | skip)))
    all_goals go_wp2_with fail
    all_goals go_meet
    all_goals first
      | (have hG := Got.of oC hC kC (show Ext w15 _ from (by (repeat (first | exact Ext.refl _ | assumption | refine Ext.alloc ?_ _ | refine Ext.drew ?_ | refine Ext.drewN ?_ _ | refine Ext.setCell ?_ (by first | (simp; done) | (simp; omega)) _ | refine Ext.trans ?_ (by assumption))))) (Ext.refl _) (by omega) (by first | exact .inl kBl | exact .inl (by simp)); with_reducible exact ⟨_, _, _, _, rfl, rfl, hG⟩)
      | ((fail_if_success (have := kC)); have hG := Got.new (t := 30) oC hC (show Ext w15 _ from (by (repeat (first | exact Ext.refl _ | assumption | refine Ext.alloc ?_ _ | refine Ext.drew ?_ | refine Ext.drewN ?_ _ | refine Ext.setCell ?_ (by first | (simp; done) | (simp; omega)) _ | refine Ext.trans ?_ (by assumption))))); with_reducible exact ⟨_, _, _, _, rfl, rfl, hG⟩)
  case rest =>
  obtain ⟨gU, loU, hiU, ⟨HU, ⟨AU0, nU0, kU0⟩, ⟨AU1, nU1, kU1⟩, ⟨AU2, nU2, kU2⟩, ⟨AU3, nU3, kU3⟩, dU, ⟨AU4, nU4, kU4⟩⟩, rfl, rfl, hG⟩ := hcut
  obtain ⟨w18, rfl⟩ : ∃ x, x = wc := ⟨_, rfl⟩
  have BU := Lib.hid hG.box
  have OU := Lib.hid hG.own
  have MU := Lib.hid hG.rows
  have zgU := hG.g1
  have zlU := hG.l1
  have zhU := hG.h1
  have zoU := hG.o1
  have zbU : gU < w18.heap.size := hG.box.lt
  have z18 : w15.heap.size ≤ w18.heap.size := hG.e.size
  have FU := Lib.hid (night_fit hG.own HX.out d0 d1 d2 d3 d4)
  have E := Lib.hid (E.out.trans hG.e)
  have BA := Lib.hid (BA.out.keep hG.e)
  have BS := Lib.hid (BS.out.keep hG.e)
  have BW := Lib.hid (BW.out.keep hG.e)
  have BG := Lib.hid (BG.out.keep hG.e)
  have OW := Lib.hid (OW.out.keep hG.e)
  have OM := Lib.hid (OM.out.keep hG.e)
  clear hG
  clear b0 b1 b2 b3 b4 b5 b6
  clear xc0 xc1 xc2 xc3
  obtain ⟨b0, b1, b2, b3, b4, b5, b6⟩ := BU.out.cell
  simp only at b0 b1 b2 b3 b4 b5 b6
  obtain ⟨y0, y1, y2, y3, y4, y5, y6⟩ := BW.out.cell
  simp only at y0 y1 y2 y3 y4 y5 y6
  go_wp2_with (go_at_call 29; refine (fun h : Hid _ => h.out) ?_)
  unfold Hid
  refine (laws_eqMuseum (⟨HU, ⟨AU0, nU0, kU0⟩, ⟨AU1, nU1, kU1⟩, ⟨AU2, nU2, kU2⟩, ⟨AU3, nU3, kU3⟩, dU, ⟨AU4, nU4, kU4⟩⟩ : MV) (⟨HW, ⟨AW0, nW0, kW0⟩, ⟨AW1, nW1, kW1⟩, ⟨AW2, nW2, kW2⟩, ⟨AW3, nW3, kW3⟩, dW, ⟨AW4, nW4, kW4⟩⟩ : MV) (nightM m x) w18 OU.out.rd OW.out.rd).mono ?_
  rintro e w19 ⟨rfl, h19⟩
  have E := Lib.hid (E.out.trans h19)
  have BA := Lib.hid (BA.out.keep h19)
  have BS := Lib.hid (BS.out.keep h19)
  have BW := Lib.hid (BW.out.keep h19)
  have BG := Lib.hid (BG.out.keep h19)
  have OW := Lib.hid (OW.out.keep h19)
  have OM := Lib.hid (OM.out.keep h19)
  have BU := Lib.hid (BU.out.keep h19)
  have OU := Lib.hid (OU.out.keep h19)
  have z19 : w18.heap.size ≤ w19.heap.size := h19.size
  clear h19
  clear b0 b1 b2 b3 b4 b5 b6 y0 y1 y2 y3 y4 y5 y6
  obtain ⟨b0, b1, b2, b3, b4, b5, b6⟩ := BG.out.cell
  simp only at b0 b1 b2 b3 b4 b5 b6
  go_wp2_with (go_at_call 31; refine (fun h : Hid _ => h.out) ?_)
  unfold Hid
  refine (laws_heldMuseum (⟨HG, ⟨AG0, nG0, kG0⟩, ⟨AG1, nG1, kG1⟩, ⟨AG2, nG2, kG2⟩, ⟨AG3, nG3, kG3⟩, dG, ⟨AG4, nG4, kG4⟩⟩ : MV) (nightM m x) 1 w19 OM.out.rd FG.out (by omega) (by omega)).mono ?_
  rintro e w20 ⟨he, h20⟩
  rw [← HKG.out] at he
  subst he
  have E := Lib.hid (E.out.trans h20)
  have BA := Lib.hid (BA.out.keep h20)
  have BS := Lib.hid (BS.out.keep h20)
  have BW := Lib.hid (BW.out.keep h20)
  have BG := Lib.hid (BG.out.keep h20)
  have OW := Lib.hid (OW.out.keep h20)
  have OM := Lib.hid (OM.out.keep h20)
  have BU := Lib.hid (BU.out.keep h20)
  have OU := Lib.hid (OU.out.keep h20)
  have z20 : w19.heap.size ≤ w20.heap.size := h20.size
  clear h20
  clear b0 b1 b2 b3 b4 b5 b6
  go_wp2_with fail
  go_ret
  exact ⟨rfl, HE.out.trans E.out⟩
end Go.Proofs.YtkelmeemblmggaaGreatDoor
/- A world in which the listed tables stand, written out; no condition. -/
namespace Go.Proofs.YtkelmeemblmggaaGreatDoor
set_option linter.unusedSimpArgs false
set_option linter.unusedVariables false
open Go.ChangeShapes Go.WideShapes Go.ChangeAt Go.RowKit
/-- The cells of a table of numbers, or of rows of numbers. -/
def flatD : DataW Unit → List Value
  | .agg l => l.flatMap fun d => match d with
    | .lit (.int k n) => [.int k n]
    | .agg r => r.flatMap fun e => match e with
      | .lit (.int k n) => [.int k n]
      | _ => []
    | _ => []
  | _ => []
def putB (h : Array Obj) (g : Nat) (cs : List Value) : Array Obj :=
  match h[g]? with
  | some (.cells _ t fr) => h.setIfInBounds g (.cells cs.toArray t fr)
  | _ => h
def putAll (P : Program) (h : Array Obj) (l : List (String × DataW Unit)) : Array Obj :=
  l.foldl (fun h nd => match P.globalNamed nd.1 with
    | some g => putB h g (flatD nd.2)
    | none => h) h
noncomputable def laidW (P : Program) (os : Os) (l : List (String × DataW Unit)) : World :=
  { World.holding P os ⟨#[], #[], []⟩ with heap := putAll P (World.holding P os ⟨#[], #[], []⟩).heap l }
end Go.Proofs.YtkelmeemblmggaaGreatDoor
