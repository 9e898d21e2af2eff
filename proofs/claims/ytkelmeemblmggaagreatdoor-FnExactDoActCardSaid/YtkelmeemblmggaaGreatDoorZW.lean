/- Texts of one proof, laid one behind the other (NM7); no condition but what stands at each theorem. -/
import Derived.Deep.DeepCutAuto
import Derived.Test.YtkelmeemblmggaaGreatDoorZV
/- The walk of the law on DoAct; no condition. -/
namespace Go.Proofs.YtkelmeemblmggaaGreatDoor
set_option linter.unusedSimpArgs false
set_option linter.unusedVariables false
open Go.RowKit Go.Sort
theorem act_fit {w : World} {base : Nat} {v v' : MV} {m : GMuseum} {a : GAct} (h : MOwn w base v (actM m a)) {w' : World} (hx : MRd w' v' m) (hd : v'.sd.n ≤ 1048576) (hf : v'.sf.n ≤ 1048576) (hp : v'.sp.n ≤ 1048576) (hg : v'.sg.n ≤ 1048576) (hr : v'.sr.n ≤ 1048576) : MFit v := by
  obtain ⟨a1, a2, a3, a4, a5⟩ := h.rd.lens
  obtain ⟨b1, b2, b3, b4, b5⟩ := hx.lens
  obtain ⟨c1, c2, c3, c4, c5⟩ := act_lens m a
  exact MFit.of_own h (by omega) (by omega) (by omega) (by omega) (by omega)
set_option maxRecDepth 100000 in
set_option maxHeartbeats 4000000 in
theorem law_DoAct (v : MV) (m : GMuseum) (a : GAct) (w : World) (hx : MRd w v m) (hM : Hid (∃ k, w.cell? ⟨0, 0, none⟩ = some (.int .i64 k))) : Calls Tryz.prog 12 #[v.val, .agg #[.int .i64 a.k, .int .i64 a.a, .int .i64 a.b, .int .i64 a.c, .int .i64 a.d]] w fun e w' => e = .returned (.bool true) ∧ Ext w w' := by
  obtain ⟨wy, hwy⟩ : ∃ wy, wy = w.alloc (.cells v.cells 49) := ⟨_, rfl⟩
  obtain ⟨wb, hwb⟩ : ∃ wb, wb = wy.alloc (.cells #[.int .i64 a.k, .int .i64 a.a, .int .i64 a.b, .int .i64 a.c, .int .i64 a.d] 88) := ⟨_, rfl⟩
  have hEy : Ext w wy := by rw [hwy]; exact (Ext.refl w).alloc _
  have hEb : Ext wy wb := by rw [hwb]; exact (Ext.refl wy).alloc _
  have hsy : wy.heap.size = w.heap.size + 1 := by rw [hwy]; simp
  have hbx := (MBox.new hwy).keep hEb
  have hbs : Blk wb (w.heap.size + 1) 88 #[.int .i64 a.k, .int .i64 a.a, .int .i64 a.b, .int .i64 a.c, .int .i64 a.d] := by rw [hwb, ← hsy]; exact Blk.new _ _ _
  have hE := hEy.trans hEb
  have HX := Lib.hid (hx.keep hE)
  have cZ := Lib.hid (laws_szMuseum v m 1048576 wb HX.out (by omega) (by omega))
  have hbd : Hid (bulkM v m ≤ 1048576 → v.sd.n ≤ 1048576 ∧ v.sf.n ≤ 1048576 ∧ v.sp.n ≤ 1048576 ∧ v.sg.n ≤ 1048576 ∧ v.sr.n ≤ 1048576) := bulk_bdN
  have cT := Lib.hid (fun W (he : Ext wb W) a b c d f => laws_toMuseum v m W (HX.out.keep he) a b c d f)
  obtain ⟨bk, hbk⟩ : ∃ bk, bk = bulkM v m := ⟨_, rfl⟩
  rw [← hbk] at cZ hbd
  obtain ⟨Hh, ⟨A0, n0, c0⟩, ⟨A1, n1, c1⟩, ⟨A2, n2, c2⟩, ⟨A3, n3, c3⟩, day, ⟨A4, n4, c4⟩⟩ := v
  have HE := Lib.hid hE
  have Hwb : Hid (wb = (w.alloc (.cells #[.int .i64 Hh, .slice A0 n0 c0, .slice A1 n1 c1, .slice A2 n2 c2, .slice A3 n3 c3, .int .i64 day, .slice A4 n4 c4] 49)).alloc (.cells #[.int .i64 a.k, .int .i64 a.a, .int .i64 a.b, .int .i64 a.c, .int .i64 a.d] 88)) := Lib.hid (by rw [hwb, hwy]; rfl)
  have HB := Lib.hid hbx
  have HS := Lib.hid hbs
  have hsb : w.heap.size + 1 < wb.heap.size := hbs.lt
  clear hE hwb hbx hx hbk hwy hEy hEb hsy hbs
  show Calls Tryz.prog 12 #[.agg #[.int .i64 Hh, .slice A0 n0 c0, .slice A1 n1 c1, .slice A2 n2 c2, .slice A3 n3 c3, .int .i64 day, .slice A4 n4 c4], .agg #[.int .i64 a.k, .int .i64 a.a, .int .i64 a.b, .int .i64 a.c, .int .i64 a.d]] w _
  obtain ⟨b0, b1, b2, b3, b4, b5, b6⟩ := HB.out.cell
  simp only at b0 b1 b2 b3 b4 b5 b6
  by_cases q : bk ≤ 1048576
  case neg =>
    rw [if_pos (by omega)] at cZ
    go_enter Tryz.func12, Tryz.ntmps12
    go_wp2_with (go_at_call 24; refine (fun h : Hid _ => h.out) ?_)
    unfold Hid
    rw [← Hwb.out]
    refine cZ.out.mono ?_
    rintro e w1 ⟨rfl, h1⟩
    have HE1 := Lib.hid h1
    clear h1 b0 b1 b2 b3 b4 b5 b6
    go_wp2_with fail
    go_ret
    exact ⟨rfl, HE.out.trans HE1.out⟩
  rw [if_neg (by omega)] at cZ
  obtain ⟨d0, d1, d2, d3, d4⟩ := hbd.out q
  simp only at d0 d1 d2 d3 d4
  have hnb : ¬ (1048576 - bk < 0) := by omega
  obtain ⟨bd, hbdd⟩ : ∃ bd, bd = actN m a := ⟨_, rfl⟩
  have cS := Lib.hid (fun v W (h : MRd W v m) (f : MFit v) => spec_DoAct v m a W h f)
  have HMX := Lib.hid (max_ext hM.out HE.out)
  have cI := Lib.hid (fun v W (he : Ext wb W) (h : MRd W v m) (f : MFit v) => impl_DoAct v m a W h f (Lib.hid (max_ext HMX.out he)))
  rw [← hbdd] at cS cI
  have hNN := Lib.hid (fun v : MV => markEnd_nn (v := v))
  clear hbdd hbd q
  go_enter Tryz.func12, Tryz.ntmps12
  go_wp2_with (go_at_call 24; refine (fun h : Hid _ => h.out) ?_)
  unfold Hid
  rw [← Hwb.out]
  refine cZ.out.mono ?_
  rintro e w1 ⟨rfl, h1⟩
  have E := Lib.hid h1
  have BA := Lib.hid (HB.out.keep h1)
  have BS := Lib.hid (HS.out.keep h1)
  clear h1 b0 b1 b2 b3 b4 b5 b6 cZ
  go_upto_region 5 with fail
  obtain ⟨b0, b1, b2, b3, b4, b5, b6⟩ := BA.out.cell
  simp only at b0 b1 b2 b3 b4 b5 b6
  have xc0 := BS.out.cellAt (i := 0) (by simp)
  have xc1 := BS.out.cellAt (i := 1) (by simp)
  have xc2 := BS.out.cellAt (i := 2) (by simp)
  have xc3 := BS.out.cellAt (i := 3) (by simp)
  have xc4 := BS.out.cellAt (i := 4) (by simp)
  simp at xc0 xc1 xc2 xc3 xc4
  go_cut [6, 7] (fun p q wx => ∃ (g lo hi : Nat) (v : MV), p = .pointer (some ⟨g, 0, none⟩) ∧ q = .int .i64 bd ∧ GotK w1 wx g lo hi v (actM m a))
  case first =>
    have zs : w.heap.size + 1 < w1.heap.size := BS.out.lt
    have ne0 : w1.heap.size ≠ w.heap.size := by omega
    have ne1 : w1.heap.size ≠ w.heap.size + 1 := by omega
    go_region_held3 (fun w' => w'.cell? ⟨w.heap.size, 0, none⟩ = some (.int .i64 Hh) ∧ w'.cell? ⟨w.heap.size, 1, none⟩ = some (.slice A0 n0 c0) ∧ w'.cell? ⟨w.heap.size, 2, none⟩ = some (.slice A1 n1 c1) ∧ w'.cell? ⟨w.heap.size, 3, none⟩ = some (.slice A2 n2 c2) ∧ w'.cell? ⟨w.heap.size, 4, none⟩ = some (.slice A3 n3 c3) ∧ w'.cell? ⟨w.heap.size, 5, none⟩ = some (.int .i64 day) ∧ w'.cell? ⟨w.heap.size, 6, none⟩ = some (.slice A4 n4 c4) ∧ w'.cell? ⟨w.heap.size + 1, 0, none⟩ = some (.int .i64 a.k) ∧ w'.cell? ⟨w.heap.size + 1, 1, none⟩ = some (.int .i64 a.a) ∧ w'.cell? ⟨w.heap.size + 1, 2, none⟩ = some (.int .i64 a.b) ∧ w'.cell? ⟨w.heap.size + 1, 3, none⟩ = some (.int .i64 a.c) ∧ w'.cell? ⟨w.heap.size + 1, 4, none⟩ = some (.int .i64 a.d)) (go_keep) (first
      | (go_at_call 26; refine (cT.out _ (E.out.trans (by (repeat (first | exact Ext.refl _ | assumption | refine Ext.alloc ?_ _ | refine Ext.drew ?_ | refine Ext.drewN ?_ _ | refine Ext.setCell ?_ (by first | (simp; done) | (simp; omega)) _ | refine Ext.trans ?_ (by assumption))))) d0 d1 d2 d3 d4).mono ?_; rintro e wA ⟨pd, pf, pp, pg, pr, he, hA, oA⟩; simp only [MV.val, MV.cells] at he; subst he; have es : Ext w1 wA := (by (repeat (first | exact Ext.refl _ | assumption | refine Ext.alloc ?_ _ | refine Ext.drew ?_ | refine Ext.drewN ?_ _ | refine Ext.setCell ?_ (by first | (simp; done) | (simp; omega)) _ | refine Ext.trans ?_ (by assumption)))); obtain ⟨s0, s1, s2, s3, s4, s5, s6⟩ := (BA.out.keep es).cell; simp only at s0 s1 s2 s3 s4 s5 s6; have sm := BS.out.keep es; have sy0 := sm.cellAt (i := 0) (by simp); have sy1 := sm.cellAt (i := 1) (by simp); have sy2 := sm.cellAt (i := 2) (by simp); have sy3 := sm.cellAt (i := 3) (by simp); have sy4 := sm.cellAt (i := 4) (by simp); simp at sy0 sy1 sy2 sy3 sy4; have zzs := es.size; have n0s : wA.heap.size ≠ w.heap.size := (by omega); have n1s : wA.heap.size ≠ w.heap.size + 1 := (by omega); (first | (have kA := Blk.keep (Blk.new _ _ _) hA; have kA0 := kA.cellAt (i := 0) (by simp); have kA1 := kA.cellAt (i := 1) (by simp); have kA2 := kA.cellAt (i := 2) (by simp); have kA3 := kA.cellAt (i := 3) (by simp); have kA4 := kA.cellAt (i := 4) (by simp); have kA5 := kA.cellAt (i := 5) (by simp); have kA6 := kA.cellAt (i := 6) (by simp); simp at kA0 kA1 kA2 kA3 kA4 kA5 kA6; have kAf := kA.free; have kAl := kA.lt; (try simp only [heap_size_drewK] at kAf kAl)) | (have kA := Blk.keep (Blk.drew (Blk.new _ _ _)) hA; have kA0 := kA.cellAt (i := 0) (by simp); have kA1 := kA.cellAt (i := 1) (by simp); have kA2 := kA.cellAt (i := 2) (by simp); have kA3 := kA.cellAt (i := 3) (by simp); have kA4 := kA.cellAt (i := 4) (by simp); have kA5 := kA.cellAt (i := 5) (by simp); have kA6 := kA.cellAt (i := 6) (by simp); simp at kA0 kA1 kA2 kA3 kA4 kA5 kA6; have kAf := kA.free; have kAl := kA.lt; (try simp only [heap_size_drewK] at kAf kAl)) | skip))
      | (go_at_call 56; refine (laws_toAct a _).mono ?_; rintro e wB ⟨rfl, hB⟩; have et : Ext w1 wB := (by (repeat (first | exact Ext.refl _ | assumption | refine Ext.alloc ?_ _ | refine Ext.drew ?_ | refine Ext.drewN ?_ _ | refine Ext.setCell ?_ (by first | (simp; done) | (simp; omega)) _ | refine Ext.trans ?_ (by assumption)))); obtain ⟨t0, t1, t2, t3, t4, t5, t6⟩ := (BA.out.keep et).cell; simp only at t0 t1 t2 t3 t4 t5 t6; have tm := BS.out.keep et; have ty0 := tm.cellAt (i := 0) (by simp); have ty1 := tm.cellAt (i := 1) (by simp); have ty2 := tm.cellAt (i := 2) (by simp); have ty3 := tm.cellAt (i := 3) (by simp); have ty4 := tm.cellAt (i := 4) (by simp); simp at ty0 ty1 ty2 ty3 ty4; have zzt := et.size; have n0t : wB.heap.size ≠ w.heap.size := (by omega); have n1t : wB.heap.size ≠ w.heap.size + 1 := (by omega); (first | (have kB := Blk.keep kA hB; have kB0 := kB.cellAt (i := 0) (by simp); have kB1 := kB.cellAt (i := 1) (by simp); have kB2 := kB.cellAt (i := 2) (by simp); have kB3 := kB.cellAt (i := 3) (by simp); have kB4 := kB.cellAt (i := 4) (by simp); have kB5 := kB.cellAt (i := 5) (by simp); have kB6 := kB.cellAt (i := 6) (by simp); simp at kB0 kB1 kB2 kB3 kB4 kB5 kB6; have kBf := kB.free; have kBl := kB.lt; (try simp only [heap_size_drewK] at kBf kBl)) | (have kB := Blk.keep (Blk.new _ _ _) hB; have kB0 := kB.cellAt (i := 0) (by simp); have kB1 := kB.cellAt (i := 1) (by simp); have kB2 := kB.cellAt (i := 2) (by simp); have kB3 := kB.cellAt (i := 3) (by simp); have kB4 := kB.cellAt (i := 4) (by simp); have kB5 := kB.cellAt (i := 5) (by simp); have kB6 := kB.cellAt (i := 6) (by simp); simp at kB0 kB1 kB2 kB3 kB4 kB5 kB6; have kBf := kB.free; have kBl := kB.lt; (try simp only [heap_size_drewK] at kBf kBl)) | skip))
      | (go_at_call 18; refine (cS.out (⟨Hh, ⟨(some ⟨pd, 0, none⟩), n0, n0⟩, ⟨(some ⟨pf, 0, none⟩), n1, n1⟩, ⟨(some ⟨pp, 0, none⟩), n2, n2⟩, ⟨(some ⟨pg, 0, none⟩), n3, n3⟩, day, ⟨(some ⟨pr, 0, none⟩), n4, n4⟩⟩ : MV) _ (oA.rd.keep (by first | exact hB | exact Ext.trans ((Ext.refl _).alloc _) hB | exact hB.alloc _)) (MFit.of_own oA d0 d1 d2 d3 d4)).mono ?_; rintro e wC ⟨vW, hev, hC, oC⟩; obtain ⟨HW, ⟨AW0, nW0, kW0⟩, ⟨AW1, nW1, kW1⟩, ⟨AW2, nW2, kW2⟩, ⟨AW3, nW3, kW3⟩, dW, ⟨AW4, nW4, kW4⟩⟩ := vW; simp only [MV.val, MV.cells] at hev; subst hev; have eu : Ext w1 wC := (by (repeat (first | exact Ext.refl _ | assumption | refine Ext.alloc ?_ _ | refine Ext.drew ?_ | refine Ext.drewN ?_ _ | refine Ext.setCell ?_ (by first | (simp; done) | (simp; omega)) _ | refine Ext.trans ?_ (by assumption)))); obtain ⟨u0, u1, u2, u3, u4, u5, u6⟩ := (BA.out.keep eu).cell; simp only at u0 u1 u2 u3 u4 u5 u6; have um := BS.out.keep eu; have uy0 := um.cellAt (i := 0) (by simp); have uy1 := um.cellAt (i := 1) (by simp); have uy2 := um.cellAt (i := 2) (by simp); have uy3 := um.cellAt (i := 3) (by simp); have uy4 := um.cellAt (i := 4) (by simp); simp at uy0 uy1 uy2 uy3 uy4; have zzu := eu.size; have n0u : wC.heap.size ≠ w.heap.size := (by omega); have n1u : wC.heap.size ≠ w.heap.size + 1 := (by omega); (first | (have kC := Blk.keep kB hC; have kC0 := kC.cellAt (i := 0) (by simp); have kC1 := kC.cellAt (i := 1) (by simp); have kC2 := kC.cellAt (i := 2) (by simp); have kC3 := kC.cellAt (i := 3) (by simp); have kC4 := kC.cellAt (i := 4) (by simp); have kC5 := kC.cellAt (i := 5) (by simp); have kC6 := kC.cellAt (i := 6) (by simp); simp at kC0 kC1 kC2 kC3 kC4 kC5 kC6; have kCf := kC.free; have kCl := kC.lt; (try simp only [heap_size_drewK] at kCf kCl)) | (have kC := Blk.keep (Blk.new _ _ _) hC; have kC0 := kC.cellAt (i := 0) (by simp); have kC1 := kC.cellAt (i := 1) (by simp); have kC2 := kC.cellAt (i := 2) (by simp); have kC3 := kC.cellAt (i := 3) (by simp); have kC4 := kC.cellAt (i := 4) (by simp); have kC5 := kC.cellAt (i := 5) (by simp); have kC6 := kC.cellAt (i := 6) (by simp); simp at kC0 kC1 kC2 kC3 kC4 kC5 kC6; have kCf := kC.free; have kCl := kC.lt; (try simp only [heap_size_drewK] at kCf kCl)) | skip)))
    all_goals go_wp2_with fail
    all_goals go_meet
    all_goals first
      | (have hG := GotK.of oC hC kC (show Ext w1 _ from (by (repeat (first | exact Ext.refl _ | assumption | refine Ext.alloc ?_ _ | refine Ext.drew ?_ | refine Ext.drewN ?_ _ | refine Ext.setCell ?_ (by first | (simp; done) | (simp; omega)) _ | refine Ext.trans ?_ (by assumption))))) (Ext.refl _) (by omega) (by first | exact .inl kBl | exact .inl (by simp)); with_reducible exact ⟨_, _, _, _, rfl, rfl, hG⟩)
      | ((fail_if_success (have := kC)); have hG := GotK.new (t := 30) oC hC (show Ext w1 _ from (by (repeat (first | exact Ext.refl _ | assumption | refine Ext.alloc ?_ _ | refine Ext.drew ?_ | refine Ext.drewN ?_ _ | refine Ext.setCell ?_ (by first | (simp; done) | (simp; omega)) _ | refine Ext.trans ?_ (by assumption))))); with_reducible exact ⟨_, _, _, _, rfl, rfl, hG⟩)
  case rest =>
  obtain ⟨gW, loW, hiW, ⟨HW, ⟨AW0, nW0, kW0⟩, ⟨AW1, nW1, kW1⟩, ⟨AW2, nW2, kW2⟩, ⟨AW3, nW3, kW3⟩, dW, ⟨AW4, nW4, kW4⟩⟩, rfl, rfl, hG⟩ := hcut
  obtain ⟨w4, rfl⟩ : ∃ x, x = wc := ⟨_, rfl⟩
  have BW := Lib.hid hG.box
  have OW := Lib.hid hG.own
  have MW := Lib.hid hG.rows
  have zgW := hG.g1
  have zlW := hG.l1
  have zhW := hG.h1
  have zoW := hG.o1
  have zbW : gW < w4.heap.size := hG.box.lt
  have z4 : w1.heap.size ≤ w4.heap.size := hG.e.size
  have FW := Lib.hid (act_fit hG.own HX.out d0 d1 d2 d3 d4)
  have E := Lib.hid (E.out.trans hG.e)
  have BA := Lib.hid (BA.out.keep hG.e)
  have BS := Lib.hid (BS.out.keep hG.e)
  clear hG
  clear b0 b1 b2 b3 b4 b5 b6
  clear xc0 xc1 xc2 xc3 xc4
  have zb : wb.heap.size ≤ w4.heap.size := E.out.size
  obtain ⟨b0, b1, b2, b3, b4, b5, b6⟩ := BA.out.cell
  simp only at b0 b1 b2 b3 b4 b5 b6
  go_wp2_with (go_at_call 26; refine (fun h : Hid _ => h.out) ?_)
  unfold Hid
  refine (cT.out _ E.out d0 d1 d2 d3 d4).mono ?_
  rintro e w5 ⟨xd, xf, xp, xg, xr, he, h5, o5⟩
  simp only [MV.val, MV.cells] at he
  subst he
  have E := Lib.hid (E.out.trans h5)
  have BA := Lib.hid (BA.out.keep h5)
  have BS := Lib.hid (BS.out.keep h5)
  have BW := Lib.hid (BW.out.keep h5)
  have OW := Lib.hid (OW.out.keep h5)
  have Ox := Lib.hid o5
  have Mx := Lib.hid (MAt.of_own o5)
  have z5 : w4.heap.size ≤ w5.heap.size := h5.size
  clear h5 o5
  clear b0 b1 b2 b3 b4 b5 b6
  obtain ⟨w6, hw6⟩ : ∃ w6, w6 = w5.alloc (.cells #[.int .i64 Hh, .slice (some ⟨xd, 0, none⟩) n0 n0, .slice (some ⟨xf, 0, none⟩) n1 n1, .slice (some ⟨xp, 0, none⟩) n2 n2, .slice (some ⟨xg, 0, none⟩) n3 n3, .int .i64 day, .slice (some ⟨xr, 0, none⟩) n4 n4] 30) := ⟨_, rfl⟩
  have BX := Lib.hid (MBox.new (v := (⟨Hh, ⟨(some ⟨xd, 0, none⟩), n0, n0⟩, ⟨(some ⟨xf, 0, none⟩), n1, n1⟩, ⟨(some ⟨xp, 0, none⟩), n2, n2⟩, ⟨(some ⟨xg, 0, none⟩), n3, n3⟩, day, ⟨(some ⟨xr, 0, none⟩), n4, n4⟩⟩ : MV)) hw6)
  have hk6 : Ext w5 w6 := by rw [hw6]; exact (Ext.refl _).alloc _
  have E := Lib.hid (E.out.trans hk6)
  have BA := Lib.hid (BA.out.keep hk6)
  have BS := Lib.hid (BS.out.keep hk6)
  have BW := Lib.hid (BW.out.keep hk6)
  have OW := Lib.hid (OW.out.keep hk6)
  have Ox := Lib.hid (Ox.out.keep hk6)
  have HW6 := Lib.hid hw6
  have z6 : w5.heap.size < w6.heap.size := BX.out.lt
  clear hk6 hw6
  go_upto_region 7 with fail
  rw [← HW6.out]
  obtain ⟨b0, b1, b2, b3, b4, b5, b6⟩ := BX.out.cell
  simp only at b0 b1 b2 b3 b4 b5 b6
  have xc0 := BS.out.cellAt (i := 0) (by simp)
  have xc1 := BS.out.cellAt (i := 1) (by simp)
  have xc2 := BS.out.cellAt (i := 2) (by simp)
  have xc3 := BS.out.cellAt (i := 3) (by simp)
  have xc4 := BS.out.cellAt (i := 4) (by simp)
  simp at xc0 xc1 xc2 xc3 xc4
  go_cut [9, 10] (fun p q wx => ∃ (g lo hi : Nat) (v : MV), p = .pointer (some ⟨g, 0, none⟩) ∧ q = .int .i64 bd ∧ GotK w6 wx g lo hi v (actM m a))
  case first =>
    have zs : w.heap.size + 1 < w6.heap.size := BS.out.lt
    have ne0 : w6.heap.size ≠ w.heap.size := by omega
    have ne1 : w6.heap.size ≠ w.heap.size + 1 := by omega
    have zx : w5.heap.size < w6.heap.size := BX.out.lt
    have ne2 : w6.heap.size ≠ w5.heap.size := by omega
    go_region_held3 (fun w' => w'.cell? ⟨w5.heap.size, 0, none⟩ = some (.int .i64 Hh) ∧ w'.cell? ⟨w5.heap.size, 1, none⟩ = some (.slice (some ⟨xd, 0, none⟩) n0 n0) ∧ w'.cell? ⟨w5.heap.size, 2, none⟩ = some (.slice (some ⟨xf, 0, none⟩) n1 n1) ∧ w'.cell? ⟨w5.heap.size, 3, none⟩ = some (.slice (some ⟨xp, 0, none⟩) n2 n2) ∧ w'.cell? ⟨w5.heap.size, 4, none⟩ = some (.slice (some ⟨xg, 0, none⟩) n3 n3) ∧ w'.cell? ⟨w5.heap.size, 5, none⟩ = some (.int .i64 day) ∧ w'.cell? ⟨w5.heap.size, 6, none⟩ = some (.slice (some ⟨xr, 0, none⟩) n4 n4) ∧ w'.cell? ⟨w.heap.size + 1, 0, none⟩ = some (.int .i64 a.k) ∧ w'.cell? ⟨w.heap.size + 1, 1, none⟩ = some (.int .i64 a.a) ∧ w'.cell? ⟨w.heap.size + 1, 2, none⟩ = some (.int .i64 a.b) ∧ w'.cell? ⟨w.heap.size + 1, 3, none⟩ = some (.int .i64 a.c) ∧ w'.cell? ⟨w.heap.size + 1, 4, none⟩ = some (.int .i64 a.d)) (go_keep) (first
      | (go_at_call 56; refine (laws_toAct a _).mono ?_; rintro e wB ⟨rfl, hB⟩; have et : Ext w6 wB := (by (repeat (first | exact Ext.refl _ | assumption | refine Ext.alloc ?_ _ | refine Ext.drew ?_ | refine Ext.drewN ?_ _ | refine Ext.setCell ?_ (by first | (simp; done) | (simp; omega)) _ | refine Ext.trans ?_ (by assumption)))); obtain ⟨t0, t1, t2, t3, t4, t5, t6⟩ := (BX.out.keep et).cell; simp only at t0 t1 t2 t3 t4 t5 t6; have tm := BS.out.keep et; have ty0 := tm.cellAt (i := 0) (by simp); have ty1 := tm.cellAt (i := 1) (by simp); have ty2 := tm.cellAt (i := 2) (by simp); have ty3 := tm.cellAt (i := 3) (by simp); have ty4 := tm.cellAt (i := 4) (by simp); simp at ty0 ty1 ty2 ty3 ty4; have zzt := et.size; have n0t : wB.heap.size ≠ w.heap.size := (by omega); have n1t : wB.heap.size ≠ w.heap.size + 1 := (by omega); have n2t : wB.heap.size ≠ w5.heap.size := (by omega); (first | (have kB := Blk.keep (Blk.new _ _ _) hB; have kB0 := kB.cellAt (i := 0) (by simp); have kB1 := kB.cellAt (i := 1) (by simp); have kB2 := kB.cellAt (i := 2) (by simp); have kB3 := kB.cellAt (i := 3) (by simp); have kB4 := kB.cellAt (i := 4) (by simp); have kB5 := kB.cellAt (i := 5) (by simp); have kB6 := kB.cellAt (i := 6) (by simp); simp at kB0 kB1 kB2 kB3 kB4 kB5 kB6; have kBf := kB.free; have kBl := kB.lt; (try simp only [heap_size_drewK] at kBf kBl)) | (have kB := Blk.keep (Blk.drew (Blk.new _ _ _)) hB; have kB0 := kB.cellAt (i := 0) (by simp); have kB1 := kB.cellAt (i := 1) (by simp); have kB2 := kB.cellAt (i := 2) (by simp); have kB3 := kB.cellAt (i := 3) (by simp); have kB4 := kB.cellAt (i := 4) (by simp); have kB5 := kB.cellAt (i := 5) (by simp); have kB6 := kB.cellAt (i := 6) (by simp); simp at kB0 kB1 kB2 kB3 kB4 kB5 kB6; have kBf := kB.free; have kBl := kB.lt; (try simp only [heap_size_drewK] at kBf kBl)) | skip))
      | (go_at_call 17; refine (cI.out (⟨Hh, ⟨(some ⟨xd, 0, none⟩), n0, n0⟩, ⟨(some ⟨xf, 0, none⟩), n1, n1⟩, ⟨(some ⟨xp, 0, none⟩), n2, n2⟩, ⟨(some ⟨xg, 0, none⟩), n3, n3⟩, day, ⟨(some ⟨xr, 0, none⟩), n4, n4⟩⟩ : MV) _ (E.out.trans (by first | exact et | exact et.alloc _)) (Ox.out.rd.keep (by (repeat (first | exact Ext.refl _ | assumption | refine Ext.alloc ?_ _ | refine Ext.drew ?_ | refine Ext.drewN ?_ _ | refine Ext.setCell ?_ (by first | (simp; done) | (simp; omega)) _ | refine Ext.trans ?_ (by assumption))))) (MFit.of_own Ox.out d0 d1 d2 d3 d4)).mono ?_; rintro e wC ⟨vG, hev, hC, oC⟩; obtain ⟨HG, ⟨AG0, nG0, kG0⟩, ⟨AG1, nG1, kG1⟩, ⟨AG2, nG2, kG2⟩, ⟨AG3, nG3, kG3⟩, dG, ⟨AG4, nG4, kG4⟩⟩ := vG; simp only [MV.val, MV.cells] at hev; subst hev; have eu : Ext w6 wC := (by (repeat (first | exact Ext.refl _ | assumption | refine Ext.alloc ?_ _ | refine Ext.drew ?_ | refine Ext.drewN ?_ _ | refine Ext.setCell ?_ (by first | (simp; done) | (simp; omega)) _ | refine Ext.trans ?_ (by assumption)))); obtain ⟨u0, u1, u2, u3, u4, u5, u6⟩ := (BX.out.keep eu).cell; simp only at u0 u1 u2 u3 u4 u5 u6; have um := BS.out.keep eu; have uy0 := um.cellAt (i := 0) (by simp); have uy1 := um.cellAt (i := 1) (by simp); have uy2 := um.cellAt (i := 2) (by simp); have uy3 := um.cellAt (i := 3) (by simp); have uy4 := um.cellAt (i := 4) (by simp); simp at uy0 uy1 uy2 uy3 uy4; have zzu := eu.size; have n0u : wC.heap.size ≠ w.heap.size := (by omega); have n1u : wC.heap.size ≠ w.heap.size + 1 := (by omega); have n2u : wC.heap.size ≠ w5.heap.size := (by omega); (first | (have kC := Blk.keep kB hC; have kC0 := kC.cellAt (i := 0) (by simp); have kC1 := kC.cellAt (i := 1) (by simp); have kC2 := kC.cellAt (i := 2) (by simp); have kC3 := kC.cellAt (i := 3) (by simp); have kC4 := kC.cellAt (i := 4) (by simp); have kC5 := kC.cellAt (i := 5) (by simp); have kC6 := kC.cellAt (i := 6) (by simp); simp at kC0 kC1 kC2 kC3 kC4 kC5 kC6; have kCf := kC.free; have kCl := kC.lt; (try simp only [heap_size_drewK] at kCf kCl)) | (have kC := Blk.keep (Blk.new _ _ _) hC; have kC0 := kC.cellAt (i := 0) (by simp); have kC1 := kC.cellAt (i := 1) (by simp); have kC2 := kC.cellAt (i := 2) (by simp); have kC3 := kC.cellAt (i := 3) (by simp); have kC4 := kC.cellAt (i := 4) (by simp); have kC5 := kC.cellAt (i := 5) (by simp); have kC6 := kC.cellAt (i := 6) (by simp); simp at kC0 kC1 kC2 kC3 kC4 kC5 kC6; have kCf := kC.free; have kCl := kC.lt; (try simp only [heap_size_drewK] at kCf kCl)) | skip)))
    all_goals go_wp2_with fail
    all_goals go_meet
    all_goals first
      | (have hG := GotK.of oC hC kC (show Ext w6 _ from (by (repeat (first | exact Ext.refl _ | assumption | refine Ext.alloc ?_ _ | refine Ext.drew ?_ | refine Ext.drewN ?_ _ | refine Ext.setCell ?_ (by first | (simp; done) | (simp; omega)) _ | refine Ext.trans ?_ (by assumption))))) (Ext.refl _) (by omega) (by first | exact .inl kBl | exact .inl (by simp)); with_reducible exact ⟨_, _, _, _, rfl, rfl, hG⟩)
      | ((fail_if_success (have := kC)); have hG := GotK.new (t := 30) oC hC (show Ext w6 _ from (by (repeat (first | exact Ext.refl _ | assumption | refine Ext.alloc ?_ _ | refine Ext.drew ?_ | refine Ext.drewN ?_ _ | refine Ext.setCell ?_ (by first | (simp; done) | (simp; omega)) _ | refine Ext.trans ?_ (by assumption))))); with_reducible exact ⟨_, _, _, _, rfl, rfl, hG⟩)
  case rest =>
  obtain ⟨gG, loG, hiG, ⟨HG, ⟨AG0, nG0, kG0⟩, ⟨AG1, nG1, kG1⟩, ⟨AG2, nG2, kG2⟩, ⟨AG3, nG3, kG3⟩, dG, ⟨AG4, nG4, kG4⟩⟩, rfl, rfl, hG⟩ := hcut
  obtain ⟨w8, rfl⟩ : ∃ x, x = wc := ⟨_, rfl⟩
  have BG := Lib.hid hG.box
  have OG := Lib.hid hG.own
  have MG := Lib.hid hG.rows
  have zgG := hG.g1
  have zlG := hG.l1
  have zhG := hG.h1
  have zoG := hG.o1
  have zbG : gG < w8.heap.size := hG.box.lt
  have z8 : w6.heap.size ≤ w8.heap.size := hG.e.size
  have FG := Lib.hid (act_fit hG.own HX.out d0 d1 d2 d3 d4)
  have E := Lib.hid (E.out.trans hG.e)
  have BA := Lib.hid (BA.out.keep hG.e)
  have BS := Lib.hid (BS.out.keep hG.e)
  have BW := Lib.hid (BW.out.keep hG.e)
  have OW := Lib.hid (OW.out.keep hG.e)
  have Ox := Lib.hid (Ox.out.keep hG.e)
  have BX := Lib.hid (BX.out.keep hG.e)
  clear hG
  clear b0 b1 b2 b3 b4 b5 b6
  clear xc0 xc1 xc2 xc3 xc4
  obtain ⟨b0, b1, b2, b3, b4, b5, b6⟩ := BG.out.cell
  simp only at b0 b1 b2 b3 b4 b5 b6
  obtain ⟨y0, y1, y2, y3, y4, y5, y6⟩ := BW.out.cell
  simp only at y0 y1 y2 y3 y4 y5 y6
  go_wp2_with (go_at_call 29; refine (fun h : Hid _ => h.out) ?_)
  unfold Hid
  refine (laws_eqMuseum (⟨HG, ⟨AG0, nG0, kG0⟩, ⟨AG1, nG1, kG1⟩, ⟨AG2, nG2, kG2⟩, ⟨AG3, nG3, kG3⟩, dG, ⟨AG4, nG4, kG4⟩⟩ : MV) (⟨HW, ⟨AW0, nW0, kW0⟩, ⟨AW1, nW1, kW1⟩, ⟨AW2, nW2, kW2⟩, ⟨AW3, nW3, kW3⟩, dW, ⟨AW4, nW4, kW4⟩⟩ : MV) (actM m a) w8 OG.out.rd OW.out.rd).mono ?_
  rintro e w9 ⟨rfl, h9⟩
  have E := Lib.hid (E.out.trans h9)
  have BA := Lib.hid (BA.out.keep h9)
  have BS := Lib.hid (BS.out.keep h9)
  have BW := Lib.hid (BW.out.keep h9)
  have OW := Lib.hid (OW.out.keep h9)
  have Ox := Lib.hid (Ox.out.keep h9)
  have BX := Lib.hid (BX.out.keep h9)
  have BG := Lib.hid (BG.out.keep h9)
  have OG := Lib.hid (OG.out.keep h9)
  have z9 : w8.heap.size ≤ w9.heap.size := h9.size
  clear h9
  clear b0 b1 b2 b3 b4 b5 b6 y0 y1 y2 y3 y4 y5 y6
  go_wp2_with fail
  obtain ⟨b0, b1, b2, b3, b4, b5, b6⟩ := BA.out.cell
  simp only at b0 b1 b2 b3 b4 b5 b6
  obtain ⟨y0, y1, y2, y3, y4, y5, y6⟩ := BX.out.cell
  simp only at y0 y1 y2 y3 y4 y5 y6
  go_region_held3 (fun w' => w'.cell? ⟨w.heap.size, 0, none⟩ = some (.int .i64 Hh) ∧ w'.cell? ⟨w.heap.size, 1, none⟩ = some (.slice A0 n0 c0) ∧ w'.cell? ⟨w.heap.size, 2, none⟩ = some (.slice A1 n1 c1) ∧ w'.cell? ⟨w.heap.size, 3, none⟩ = some (.slice A2 n2 c2) ∧ w'.cell? ⟨w.heap.size, 4, none⟩ = some (.slice A3 n3 c3) ∧ w'.cell? ⟨w.heap.size, 5, none⟩ = some (.int .i64 day) ∧ w'.cell? ⟨w.heap.size, 6, none⟩ = some (.slice A4 n4 c4) ∧ w'.cell? ⟨w5.heap.size, 0, none⟩ = some (.int .i64 Hh) ∧ w'.cell? ⟨w5.heap.size, 1, none⟩ = some (.slice (some ⟨xd, 0, none⟩) n0 n0) ∧ w'.cell? ⟨w5.heap.size, 2, none⟩ = some (.slice (some ⟨xf, 0, none⟩) n1 n1) ∧ w'.cell? ⟨w5.heap.size, 3, none⟩ = some (.slice (some ⟨xp, 0, none⟩) n2 n2) ∧ w'.cell? ⟨w5.heap.size, 4, none⟩ = some (.slice (some ⟨xg, 0, none⟩) n3 n3) ∧ w'.cell? ⟨w5.heap.size, 5, none⟩ = some (.int .i64 day) ∧ w'.cell? ⟨w5.heap.size, 6, none⟩ = some (.slice (some ⟨xr, 0, none⟩) n4 n4)) (go_keep) (first
    | (go_at_call 26; refine (cT.out _ (E.out.trans ((Ext.refl _).drewN 1)) d0 d1 d2 d3 d4).mono ?_; rintro e w10 ⟨yd, yf, yp, yg, yr, he, h10, o10⟩; simp only [MV.val, MV.cells] at he; subst he; obtain ⟨s0, s1, s2, s3, s4, s5, s6⟩ := (BA.out.keep (Ext.trans ((Ext.refl _).drewN 1) h10)).cell; obtain ⟨t0, t1, t2, t3, t4, t5, t6⟩ := (BX.out.keep (Ext.trans ((Ext.refl _).drewN 1) h10)).cell; simp only at s0 s1 s2 s3 s4 s5 s6 t0 t1 t2 t3 t4 t5 t6)
    | (go_at_call 29; refine (laws_eqMuseum _ _ m _ (Ox.out.rd.keep (Ext.trans ((Ext.refl _).drewN 1) h10)) o10.rd).mono ?_; rintro e w11 ⟨rfl, h11⟩; obtain ⟨s0, s1, s2, s3, s4, s5, s6⟩ := (BA.out.keep ((Ext.trans ((Ext.refl _).drewN 1) h10).trans h11)).cell; obtain ⟨t0, t1, t2, t3, t4, t5, t6⟩ := (BX.out.keep ((Ext.trans ((Ext.refl _).drewN 1) h10).trans h11)).cell; simp only at s0 s1 s2 s3 s4 s5 s6 t0 t1 t2 t3 t4 t5 t6))
  have hX : Ext w9 w11 := ((Ext.trans ((Ext.refl _).drewN 1) h10).trans h11)
  have E := Lib.hid (E.out.trans hX)
  have BA := Lib.hid (BA.out.keep hX)
  have BS := Lib.hid (BS.out.keep hX)
  have BW := Lib.hid (BW.out.keep hX)
  have OW := Lib.hid (OW.out.keep hX)
  have Ox := Lib.hid (Ox.out.keep hX)
  have BX := Lib.hid (BX.out.keep hX)
  have BG := Lib.hid (BG.out.keep hX)
  have OG := Lib.hid (OG.out.keep hX)
  have z11 : w9.heap.size ≤ w11.heap.size := hX.size
  clear hX h10 h11 o10
  clear b0 b1 b2 b3 b4 b5 b6 y0 y1 y2 y3 y4 y5 y6 s0 s1 s2 s3 s4 s5 s6 t0 t1 t2 t3 t4 t5 t6
  have fitx := Lib.hid (MFit.of_own Ox.out d0 d1 d2 d3 d4)
  obtain ⟨b0, b1, b2, b3, b4, b5, b6⟩ := BX.out.cell
  simp only at b0 b1 b2 b3 b4 b5 b6
  go_wp2_with (go_at_call 30; refine (fun h : Hid _ => h.out) ?_)
  unfold Hid
  obtain ⟨kx, hkx⟩ : ∃ z, z = markEnd 1 (⟨Hh, ⟨(some ⟨xd, 0, none⟩), n0, n0⟩, ⟨(some ⟨xf, 0, none⟩), n1, n1⟩, ⟨(some ⟨xp, 0, none⟩), n2, n2⟩, ⟨(some ⟨xg, 0, none⟩), n3, n3⟩, day, ⟨(some ⟨xr, 0, none⟩), n4, n4⟩⟩ : MV) := ⟨_, rfl⟩
  have nkx : ¬ kx < 0 := by rw [hkx]; exact markEnd_nn
  refine (laws_markMuseum (⟨Hh, ⟨(some ⟨xd, 0, none⟩), n0, n0⟩, ⟨(some ⟨xf, 0, none⟩), n1, n1⟩, ⟨(some ⟨xp, 0, none⟩), n2, n2⟩, ⟨(some ⟨xg, 0, none⟩), n3, n3⟩, day, ⟨(some ⟨xr, 0, none⟩), n4, n4⟩⟩ : MV) m 1 w4.heap.size w5.heap.size w11 Ox.out Mx.out fitx.out (by omega) (by omega) (by omega)).mono ?_
  rintro e w12 ⟨he, o12, k12⟩
  rw [← hkx] at he
  subst he
  have E := Lib.hid (k12.ext E.out (by omega))
  have z12 : w11.heap.size ≤ w12.heap.size := k12.size
  clear b0 b1 b2 b3 b4 b5 b6
  have BA := Lib.hid (BA.out.out k12 (.inl (by omega)))
  have BS := Lib.hid (BS.out.outL k12 (.inl (by omega)))
  have BW := Lib.hid (BW.out.out k12 (.inl (by omega)))
  have BG := Lib.hid (BG.out.out k12 (.inr (by omega)))
  have OW := Lib.hid (OW.out.below k12 (MW.out.mono (Nat.le_refl _) (by omega)))
  have OG := Lib.hid (OG.out.out k12 (by omega))
  clear k12 o12 BX Ox hkx
  obtain ⟨b0, b1, b2, b3, b4, b5, b6⟩ := BG.out.cell
  simp only at b0 b1 b2 b3 b4 b5 b6
  obtain ⟨y0, y1, y2, y3, y4, y5, y6⟩ := BW.out.cell
  simp only at y0 y1 y2 y3 y4 y5 y6
  go_wp2_with (go_at_call 29; refine (fun h : Hid _ => h.out) ?_)
  unfold Hid
  refine (laws_eqMuseum (⟨HG, ⟨AG0, nG0, kG0⟩, ⟨AG1, nG1, kG1⟩, ⟨AG2, nG2, kG2⟩, ⟨AG3, nG3, kG3⟩, dG, ⟨AG4, nG4, kG4⟩⟩ : MV) (⟨HW, ⟨AW0, nW0, kW0⟩, ⟨AW1, nW1, kW1⟩, ⟨AW2, nW2, kW2⟩, ⟨AW3, nW3, kW3⟩, dW, ⟨AW4, nW4, kW4⟩⟩ : MV) (actM m a) w12 OG.out.rd OW.out.rd).mono ?_
  rintro e w13 ⟨rfl, h13⟩
  have E := Lib.hid (E.out.trans h13)
  have BA := Lib.hid (BA.out.keep h13)
  have BS := Lib.hid (BS.out.keep h13)
  have BW := Lib.hid (BW.out.keep h13)
  have BG := Lib.hid (BG.out.keep h13)
  have OW := Lib.hid (OW.out.keep h13)
  have OG := Lib.hid (OG.out.keep h13)
  have z13 : w12.heap.size ≤ w13.heap.size := h13.size
  clear h13
  clear b0 b1 b2 b3 b4 b5 b6 y0 y1 y2 y3 y4 y5 y6
  obtain ⟨b0, b1, b2, b3, b4, b5, b6⟩ := BG.out.cell
  simp only at b0 b1 b2 b3 b4 b5 b6
  go_wp2_with (go_at_call 30; refine (fun h : Hid _ => h.out) ?_)
  unfold Hid
  obtain ⟨kg, hkg⟩ : ∃ z, z = markEnd 1 (⟨HG, ⟨AG0, nG0, kG0⟩, ⟨AG1, nG1, kG1⟩, ⟨AG2, nG2, kG2⟩, ⟨AG3, nG3, kG3⟩, dG, ⟨AG4, nG4, kG4⟩⟩ : MV) := ⟨_, rfl⟩
  have nkg : ¬ kg < 0 := by rw [hkg]; exact markEnd_nn
  refine (laws_markMuseum (⟨HG, ⟨AG0, nG0, kG0⟩, ⟨AG1, nG1, kG1⟩, ⟨AG2, nG2, kG2⟩, ⟨AG3, nG3, kG3⟩, dG, ⟨AG4, nG4, kG4⟩⟩ : MV) (actM m a) 1 loG hiG w13 OG.out MG.out FG.out (by omega) (by omega) (by omega)).mono ?_
  rintro e w14 ⟨he, o14, k14⟩
  rw [← hkg] at he
  subst he
  have E := Lib.hid (k14.ext E.out (by omega))
  have z14 : w13.heap.size ≤ w14.heap.size := k14.size
  clear b0 b1 b2 b3 b4 b5 b6
  have BA := Lib.hid (BA.out.out k14 (.inl (by omega)))
  have BS := Lib.hid (BS.out.outL k14 (.inl (by omega)))
  have BW := Lib.hid (BW.out.out k14 (.inl (by omega)))
  have BG := Lib.hid (BG.out.out k14 zoG)
  have OW := Lib.hid (OW.out.below k14 (MW.out.mono (Nat.le_refl _) (by omega)))
  have OM := Lib.hid o14
  have HKG := Lib.hid hkg
  clear k14 o14 OG hkg
  obtain ⟨b0, b1, b2, b3, b4, b5, b6⟩ := BG.out.cell
  simp only at b0 b1 b2 b3 b4 b5 b6
  go_wp2_with (go_at_call 31; refine (fun h : Hid _ => h.out) ?_)
  unfold Hid
  refine (laws_heldMuseum (⟨HG, ⟨AG0, nG0, kG0⟩, ⟨AG1, nG1, kG1⟩, ⟨AG2, nG2, kG2⟩, ⟨AG3, nG3, kG3⟩, dG, ⟨AG4, nG4, kG4⟩⟩ : MV) (actM m a) 1 w14 OM.out.rd FG.out (by omega) (by omega)).mono ?_
  rintro e w15 ⟨he, h15⟩
  rw [← HKG.out] at he
  subst he
  have E := Lib.hid (E.out.trans h15)
  have BA := Lib.hid (BA.out.keep h15)
  have BS := Lib.hid (BS.out.keep h15)
  have BW := Lib.hid (BW.out.keep h15)
  have BG := Lib.hid (BG.out.keep h15)
  have OW := Lib.hid (OW.out.keep h15)
  have OM := Lib.hid (OM.out.keep h15)
  have z15 : w14.heap.size ≤ w15.heap.size := h15.size
  clear h15
  clear b0 b1 b2 b3 b4 b5 b6
  go_upto_region 24 with fail
  obtain ⟨b0, b1, b2, b3, b4, b5, b6⟩ := BA.out.cell
  simp only at b0 b1 b2 b3 b4 b5 b6
  have xc0 := BS.out.cellAt (i := 0) (by simp)
  have xc1 := BS.out.cellAt (i := 1) (by simp)
  have xc2 := BS.out.cellAt (i := 2) (by simp)
  have xc3 := BS.out.cellAt (i := 3) (by simp)
  have xc4 := BS.out.cellAt (i := 4) (by simp)
  simp at xc0 xc1 xc2 xc3 xc4
  go_cut [14, 15] (fun p q wx => ∃ (g lo hi : Nat) (v : MV), p = .pointer (some ⟨g, 0, none⟩) ∧ q = .int .i64 bd ∧ GotK w15 wx g lo hi v (actM m a))
  case first =>
    have zs : w.heap.size + 1 < w15.heap.size := BS.out.lt
    have ne0 : w15.heap.size ≠ w.heap.size := by omega
    have ne1 : w15.heap.size ≠ w.heap.size + 1 := by omega
    go_region_held3 (fun w' => w'.cell? ⟨w.heap.size, 0, none⟩ = some (.int .i64 Hh) ∧ w'.cell? ⟨w.heap.size, 1, none⟩ = some (.slice A0 n0 c0) ∧ w'.cell? ⟨w.heap.size, 2, none⟩ = some (.slice A1 n1 c1) ∧ w'.cell? ⟨w.heap.size, 3, none⟩ = some (.slice A2 n2 c2) ∧ w'.cell? ⟨w.heap.size, 4, none⟩ = some (.slice A3 n3 c3) ∧ w'.cell? ⟨w.heap.size, 5, none⟩ = some (.int .i64 day) ∧ w'.cell? ⟨w.heap.size, 6, none⟩ = some (.slice A4 n4 c4) ∧ w'.cell? ⟨w.heap.size + 1, 0, none⟩ = some (.int .i64 a.k) ∧ w'.cell? ⟨w.heap.size + 1, 1, none⟩ = some (.int .i64 a.a) ∧ w'.cell? ⟨w.heap.size + 1, 2, none⟩ = some (.int .i64 a.b) ∧ w'.cell? ⟨w.heap.size + 1, 3, none⟩ = some (.int .i64 a.c) ∧ w'.cell? ⟨w.heap.size + 1, 4, none⟩ = some (.int .i64 a.d)) (go_keep) (first
      | (go_at_call 26; refine (cT.out _ (E.out.trans (by (repeat (first | exact Ext.refl _ | assumption | refine Ext.alloc ?_ _ | refine Ext.drew ?_ | refine Ext.drewN ?_ _ | refine Ext.setCell ?_ (by first | (simp; done) | (simp; omega)) _ | refine Ext.trans ?_ (by assumption))))) d0 d1 d2 d3 d4).mono ?_; rintro e wA ⟨pd, pf, pp, pg, pr, he, hA, oA⟩; simp only [MV.val, MV.cells] at he; subst he; have es : Ext w15 wA := (by (repeat (first | exact Ext.refl _ | assumption | refine Ext.alloc ?_ _ | refine Ext.drew ?_ | refine Ext.drewN ?_ _ | refine Ext.setCell ?_ (by first | (simp; done) | (simp; omega)) _ | refine Ext.trans ?_ (by assumption)))); obtain ⟨s0, s1, s2, s3, s4, s5, s6⟩ := (BA.out.keep es).cell; simp only at s0 s1 s2 s3 s4 s5 s6; have sm := BS.out.keep es; have sy0 := sm.cellAt (i := 0) (by simp); have sy1 := sm.cellAt (i := 1) (by simp); have sy2 := sm.cellAt (i := 2) (by simp); have sy3 := sm.cellAt (i := 3) (by simp); have sy4 := sm.cellAt (i := 4) (by simp); simp at sy0 sy1 sy2 sy3 sy4; have zzs := es.size; have n0s : wA.heap.size ≠ w.heap.size := (by omega); have n1s : wA.heap.size ≠ w.heap.size + 1 := (by omega); (first | (have kA := Blk.keep (Blk.new _ _ _) hA; have kA0 := kA.cellAt (i := 0) (by simp); have kA1 := kA.cellAt (i := 1) (by simp); have kA2 := kA.cellAt (i := 2) (by simp); have kA3 := kA.cellAt (i := 3) (by simp); have kA4 := kA.cellAt (i := 4) (by simp); have kA5 := kA.cellAt (i := 5) (by simp); have kA6 := kA.cellAt (i := 6) (by simp); simp at kA0 kA1 kA2 kA3 kA4 kA5 kA6; have kAf := kA.free; have kAl := kA.lt; (try simp only [heap_size_drewK] at kAf kAl)) | (have kA := Blk.keep (Blk.drew (Blk.new _ _ _)) hA; have kA0 := kA.cellAt (i := 0) (by simp); have kA1 := kA.cellAt (i := 1) (by simp); have kA2 := kA.cellAt (i := 2) (by simp); have kA3 := kA.cellAt (i := 3) (by simp); have kA4 := kA.cellAt (i := 4) (by simp); have kA5 := kA.cellAt (i := 5) (by simp); have kA6 := kA.cellAt (i := 6) (by simp); simp at kA0 kA1 kA2 kA3 kA4 kA5 kA6; have kAf := kA.free; have kAl := kA.lt; (try simp only [heap_size_drewK] at kAf kAl)) | skip))
      | (go_at_call 56; refine (laws_toAct a _).mono ?_; rintro e wB ⟨rfl, hB⟩; have et : Ext w15 wB := (by (repeat (first | exact Ext.refl _ | assumption | refine Ext.alloc ?_ _ | refine Ext.drew ?_ | refine Ext.drewN ?_ _ | refine Ext.setCell ?_ (by first | (simp; done) | (simp; omega)) _ | refine Ext.trans ?_ (by assumption)))); obtain ⟨t0, t1, t2, t3, t4, t5, t6⟩ := (BA.out.keep et).cell; simp only at t0 t1 t2 t3 t4 t5 t6; have tm := BS.out.keep et; have ty0 := tm.cellAt (i := 0) (by simp); have ty1 := tm.cellAt (i := 1) (by simp); have ty2 := tm.cellAt (i := 2) (by simp); have ty3 := tm.cellAt (i := 3) (by simp); have ty4 := tm.cellAt (i := 4) (by simp); simp at ty0 ty1 ty2 ty3 ty4; have zzt := et.size; have n0t : wB.heap.size ≠ w.heap.size := (by omega); have n1t : wB.heap.size ≠ w.heap.size + 1 := (by omega); (first | (have kB := Blk.keep kA hB; have kB0 := kB.cellAt (i := 0) (by simp); have kB1 := kB.cellAt (i := 1) (by simp); have kB2 := kB.cellAt (i := 2) (by simp); have kB3 := kB.cellAt (i := 3) (by simp); have kB4 := kB.cellAt (i := 4) (by simp); have kB5 := kB.cellAt (i := 5) (by simp); have kB6 := kB.cellAt (i := 6) (by simp); simp at kB0 kB1 kB2 kB3 kB4 kB5 kB6; have kBf := kB.free; have kBl := kB.lt; (try simp only [heap_size_drewK] at kBf kBl)) | (have kB := Blk.keep (Blk.new _ _ _) hB; have kB0 := kB.cellAt (i := 0) (by simp); have kB1 := kB.cellAt (i := 1) (by simp); have kB2 := kB.cellAt (i := 2) (by simp); have kB3 := kB.cellAt (i := 3) (by simp); have kB4 := kB.cellAt (i := 4) (by simp); have kB5 := kB.cellAt (i := 5) (by simp); have kB6 := kB.cellAt (i := 6) (by simp); simp at kB0 kB1 kB2 kB3 kB4 kB5 kB6; have kBf := kB.free; have kBl := kB.lt; (try simp only [heap_size_drewK] at kBf kBl)) | skip))
      | (go_at_call 17; refine (cI.out (⟨Hh, ⟨(some ⟨pd, 0, none⟩), n0, n0⟩, ⟨(some ⟨pf, 0, none⟩), n1, n1⟩, ⟨(some ⟨pp, 0, none⟩), n2, n2⟩, ⟨(some ⟨pg, 0, none⟩), n3, n3⟩, day, ⟨(some ⟨pr, 0, none⟩), n4, n4⟩⟩ : MV) _ (E.out.trans (by first | exact et | exact et.alloc _)) (oA.rd.keep (by first | exact hB | exact Ext.trans ((Ext.refl _).alloc _) hB | exact hB.alloc _)) (MFit.of_own oA d0 d1 d2 d3 d4)).mono ?_; rintro e wC ⟨vU, hev, hC, oC⟩; obtain ⟨HU, ⟨AU0, nU0, kU0⟩, ⟨AU1, nU1, kU1⟩, ⟨AU2, nU2, kU2⟩, ⟨AU3, nU3, kU3⟩, dU, ⟨AU4, nU4, kU4⟩⟩ := vU; simp only [MV.val, MV.cells] at hev; subst hev; have eu : Ext w15 wC := (by (repeat (first | exact Ext.refl _ | assumption | refine Ext.alloc ?_ _ | refine Ext.drew ?_ | refine Ext.drewN ?_ _ | refine Ext.setCell ?_ (by first | (simp; done) | (simp; omega)) _ | refine Ext.trans ?_ (by assumption)))); obtain ⟨u0, u1, u2, u3, u4, u5, u6⟩ := (BA.out.keep eu).cell; simp only at u0 u1 u2 u3 u4 u5 u6; have um := BS.out.keep eu; have uy0 := um.cellAt (i := 0) (by simp); have uy1 := um.cellAt (i := 1) (by simp); have uy2 := um.cellAt (i := 2) (by simp); have uy3 := um.cellAt (i := 3) (by simp); have uy4 := um.cellAt (i := 4) (by simp); simp at uy0 uy1 uy2 uy3 uy4; have zzu := eu.size; have n0u : wC.heap.size ≠ w.heap.size := (by omega); have n1u : wC.heap.size ≠ w.heap.size + 1 := (by omega); (first | (have kC := Blk.keep kB hC; have kC0 := kC.cellAt (i := 0) (by simp); have kC1 := kC.cellAt (i := 1) (by simp); have kC2 := kC.cellAt (i := 2) (by simp); have kC3 := kC.cellAt (i := 3) (by simp); have kC4 := kC.cellAt (i := 4) (by simp); have kC5 := kC.cellAt (i := 5) (by simp); have kC6 := kC.cellAt (i := 6) (by simp); simp at kC0 kC1 kC2 kC3 kC4 kC5 kC6; have kCf := kC.free; have kCl := kC.lt; (try simp only [heap_size_drewK] at kCf kCl)) | (have kC := Blk.keep (Blk.new _ _ _) hC; have kC0 := kC.cellAt (i := 0) (by simp); have kC1 := kC.cellAt (i := 1) (by simp); have kC2 := kC.cellAt (i := 2) (by simp); have kC3 := kC.cellAt (i := 3) (by simp); have kC4 := kC.cellAt (i := 4) (by simp); have kC5 := kC.cellAt (i := 5) (by simp); have kC6 := kC.cellAt (i := 6) (by simp); simp at kC0 kC1 kC2 kC3 kC4 kC5 kC6; have kCf := kC.free; have kCl := kC.lt; (try simp only [heap_size_drewK] at kCf kCl)) | skip)))
    all_goals go_wp2_with fail
    all_goals go_meet
    all_goals first
      | (have hG := GotK.of oC hC kC (show Ext w15 _ from (by (repeat (first | exact Ext.refl _ | assumption | refine Ext.alloc ?_ _ | refine Ext.drew ?_ | refine Ext.drewN ?_ _ | refine Ext.setCell ?_ (by first | (simp; done) | (simp; omega)) _ | refine Ext.trans ?_ (by assumption))))) (Ext.refl _) (by omega) (by first | exact .inl kBl | exact .inl (by simp)); with_reducible exact ⟨_, _, _, _, rfl, rfl, hG⟩)
      | ((fail_if_success (have := kC)); have hG := GotK.new (t := 30) oC hC (show Ext w15 _ from (by (repeat (first | exact Ext.refl _ | assumption | refine Ext.alloc ?_ _ | refine Ext.drew ?_ | refine Ext.drewN ?_ _ | refine Ext.setCell ?_ (by first | (simp; done) | (simp; omega)) _ | refine Ext.trans ?_ (by assumption))))); with_reducible exact ⟨_, _, _, _, rfl, rfl, hG⟩)
  case rest =>
  obtain ⟨gU, loU, hiU, ⟨HU, ⟨AU0, nU0, kU0⟩, ⟨AU1, nU1, kU1⟩, ⟨AU2, nU2, kU2⟩, ⟨AU3, nU3, kU3⟩, dU, ⟨AU4, nU4, kU4⟩⟩, rfl, rfl, hG⟩ := hcut
  obtain ⟨w18, rfl⟩ : ∃ x, x = wc := ⟨_, rfl⟩
  have BU := Lib.hid hG.box
  have OU := Lib.hid hG.own
  have MU := Lib.hid hG.rows
  have zgU := hG.g1
  have zlU := hG.l1
  have zhU := hG.h1
  have zoU := hG.o1
  have zbU : gU < w18.heap.size := hG.box.lt
  have z18 : w15.heap.size ≤ w18.heap.size := hG.e.size
  have FU := Lib.hid (act_fit hG.own HX.out d0 d1 d2 d3 d4)
  have E := Lib.hid (E.out.trans hG.e)
  have BA := Lib.hid (BA.out.keep hG.e)
  have BS := Lib.hid (BS.out.keep hG.e)
  have BW := Lib.hid (BW.out.keep hG.e)
  have BG := Lib.hid (BG.out.keep hG.e)
  have OW := Lib.hid (OW.out.keep hG.e)
  have OM := Lib.hid (OM.out.keep hG.e)
  clear hG
  clear b0 b1 b2 b3 b4 b5 b6
  clear xc0 xc1 xc2 xc3 xc4
  obtain ⟨b0, b1, b2, b3, b4, b5, b6⟩ := BU.out.cell
  simp only at b0 b1 b2 b3 b4 b5 b6
  obtain ⟨y0, y1, y2, y3, y4, y5, y6⟩ := BW.out.cell
  simp only at y0 y1 y2 y3 y4 y5 y6
  go_wp2_with (go_at_call 29; refine (fun h : Hid _ => h.out) ?_)
  unfold Hid
  refine (laws_eqMuseum (⟨HU, ⟨AU0, nU0, kU0⟩, ⟨AU1, nU1, kU1⟩, ⟨AU2, nU2, kU2⟩, ⟨AU3, nU3, kU3⟩, dU, ⟨AU4, nU4, kU4⟩⟩ : MV) (⟨HW, ⟨AW0, nW0, kW0⟩, ⟨AW1, nW1, kW1⟩, ⟨AW2, nW2, kW2⟩, ⟨AW3, nW3, kW3⟩, dW, ⟨AW4, nW4, kW4⟩⟩ : MV) (actM m a) w18 OU.out.rd OW.out.rd).mono ?_
  rintro e w19 ⟨rfl, h19⟩
  have E := Lib.hid (E.out.trans h19)
  have BA := Lib.hid (BA.out.keep h19)
  have BS := Lib.hid (BS.out.keep h19)
  have BW := Lib.hid (BW.out.keep h19)
  have BG := Lib.hid (BG.out.keep h19)
  have OW := Lib.hid (OW.out.keep h19)
  have OM := Lib.hid (OM.out.keep h19)
  have BU := Lib.hid (BU.out.keep h19)
  have OU := Lib.hid (OU.out.keep h19)
  have z19 : w18.heap.size ≤ w19.heap.size := h19.size
  clear h19
  clear b0 b1 b2 b3 b4 b5 b6 y0 y1 y2 y3 y4 y5 y6
  obtain ⟨b0, b1, b2, b3, b4, b5, b6⟩ := BG.out.cell
  simp only at b0 b1 b2 b3 b4 b5 b6
  go_wp2_with (go_at_call 31; refine (fun h : Hid _ => h.out) ?_)
  unfold Hid
  refine (laws_heldMuseum (⟨HG, ⟨AG0, nG0, kG0⟩, ⟨AG1, nG1, kG1⟩, ⟨AG2, nG2, kG2⟩, ⟨AG3, nG3, kG3⟩, dG, ⟨AG4, nG4, kG4⟩⟩ : MV) (actM m a) 1 w19 OM.out.rd FG.out (by omega) (by omega)).mono ?_
  rintro e w20 ⟨he, h20⟩
  rw [← HKG.out] at he
  subst he
  have E := Lib.hid (E.out.trans h20)
  have BA := Lib.hid (BA.out.keep h20)
  have BS := Lib.hid (BS.out.keep h20)
  have BW := Lib.hid (BW.out.keep h20)
  have BG := Lib.hid (BG.out.keep h20)
  have OW := Lib.hid (OW.out.keep h20)
  have OM := Lib.hid (OM.out.keep h20)
  have BU := Lib.hid (BU.out.keep h20)
  have OU := Lib.hid (OU.out.keep h20)
  have z20 : w19.heap.size ≤ w20.heap.size := h20.size
  clear h20
  clear b0 b1 b2 b3 b4 b5 b6
  go_wp2_with fail
  go_ret
  exact ⟨rfl, HE.out.trans E.out⟩
end Go.Proofs.YtkelmeemblmggaaGreatDoor
