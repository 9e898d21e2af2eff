/- Texts of one proof, laid one behind the other (NMa, TB); no condition but what stands at each theorem. -/
import Derived.Test.YtkelmeemblmggaaDoorRows
import Derived.Lib.ItoaMem
import Derived.Lib.LaidTab
import Derived.LaidMore
import Derived.Test.YtkelmeemblmggaaDoorZH
import Derived.Test.YtkelmeemblmggaaDoorZJ
import Derived.Test.YtkelmeemblmggaaDoorZK
/- The walk of the law on FormatMuseum; no condition but what stands at each theorem. -/
namespace Go.Proofs.YtkelmeemblmggaaDoor
set_option linter.unusedSimpArgs false
set_option linter.unusedVariables false
open Go.RowKit Go.Sort
theorem sv_senc (l : List ByteArray) : sv l = l.flatMap senc := by
  induction l with
  | nil => rfl
  | cons a l ih => rw [List.flatMap_cons, ← ih]; rfl
theorem fmtL_len (m : GMuseum) : (fmtL m).length ≤ 33 := by
  unfold fmtL
  split
  · rename_i h
    have := sealed_len (museumB_parts.1 h).2.2.2.2.2.2.1
    simp; omega
  · simp
theorem markEnd_leF {v : MV} (h : MFit v) : 0 ≤ markEnd 1 v ∧ markEnd 1 v ≤ 100000000 := by
  have d1 := h.nd
  have d2 := h.nf
  have d3 := h.np
  have d4 := h.ng
  have d5 := h.nr
  unfold markEnd mk4 mk3 mk2 mk1
  omega
set_option maxRecDepth 100000 in
set_option maxHeartbeats 8000000 in
theorem law_FormatMuseum (v : MV) (m : GMuseum) (w : World) (hx : MRd w v m) (htab : Hid (Lib.TabIs Tryd.prog w "internal/strconv.uint64pow10" .u64 Lib.pow10Tab)) :
    Calls Tryd.prog 3 #[v.val] w fun e w' => e = .returned (.bool true) ∧ Ext w w' := by
  obtain ⟨wb, hwb⟩ : ∃ wb, wb = w.alloc (.cells v.cells 28) := ⟨_, rfl⟩
  have hbx := MBox.new hwb
  have hE : Ext w wb := by rw [hwb]; exact (Ext.refl w).alloc _
  have HX := Lib.hid (hx.keep hE)
  have HTB := Lib.hid (tab_ext htab.out hE)
  have cZ := Lib.hid (laws_szMuseum v m 1048576 wb HX.out (by omega) (by omega))
  have hbd : Hid (bulkM v m ≤ 1048576 → v.sd.n ≤ 1048576 ∧ v.sf.n ≤ 1048576 ∧ v.sp.n ≤ 1048576 ∧ v.sg.n ≤ 1048576 ∧ v.sr.n ≤ 1048576) := bulk_bdN
  have cT := Lib.hid (fun W (he : Ext wb W) a b c d f => laws_toMuseum v m W (HX.out.keep he) a b c d f)
  obtain ⟨bk, hbk⟩ : ∃ bk, bk = bulkM v m := ⟨_, rfl⟩
  rw [← hbk] at cZ hbd
  obtain ⟨Hh, ⟨A0, n0, c0⟩, ⟨A1, n1, c1⟩, ⟨A2, n2, c2⟩, ⟨A3, n3, c3⟩, day, ⟨A4, n4, c4⟩⟩ := v
  have HE := Lib.hid hE
  have Hwb : Hid (wb = w.alloc (.cells #[.int .i64 Hh, .slice A0 n0 c0, .slice A1 n1 c1, .slice A2 n2 c2, .slice A3 n3 c3, .int .i64 day, .slice A4 n4 c4] 28)) := hwb
  have BA := Lib.hid hbx
  have hbl := hbx.lt
  clear hE hwb hbx hx hbk
  show Calls Tryd.prog 3 #[.agg #[.int .i64 Hh, .slice A0 n0 c0, .slice A1 n1 c1, .slice A2 n2 c2, .slice A3 n3 c3, .int .i64 day, .slice A4 n4 c4]] w _
  obtain ⟨b0, b1, b2, b3, b4, b5, b6⟩ := BA.out.cell
  simp only at b0 b1 b2 b3 b4 b5 b6
  by_cases q : bk ≤ 1048576
  case neg =>
    rw [if_pos (by omega)] at cZ
    go_enter Tryd.func3, Tryd.ntmps3
    go_wp2_with (go_at_call 5; refine (fun h : Hid _ => h.out) ?_)
    unfold Hid
    rw [← Hwb.out]
    refine cZ.out.mono ?_
    rintro e w1 ⟨rfl, h1⟩
    have HE1 := Lib.hid h1
    clear h1 b0 b1 b2 b3 b4 b5 b6
    go_wp2_with fail
    go_ret
    exact ⟨rfl, HE.out.trans HE1.out⟩
  rw [if_neg (by omega)] at cZ
  obtain ⟨d0, d1, d2, d3, d4⟩ := hbd.out q
  simp only at d0 d1 d2 d3 d4
  have hnb : ¬ (1048576 - bk < 0) := by omega
  have cS := Lib.hid (fun v W (_ : Ext wb W) (h : MRd W v m) => spec_FormatMuseum v m W h)
  have cI := Lib.hid (fun v W (he : Ext wb W) (h : MRd W v m) => impl_FormatMuseum v m W h (Lib.hid (tab_ext HTB.out he)))
  have hLn := fmtL_len m
  obtain ⟨LL, hLL⟩ : ∃ LL, LL = (fmtL m).length := ⟨_, rfl⟩
  have HLL := Lib.hid hLL
  rw [← hLL] at hLn
  clear hbd q hLL
  go_enter Tryd.func3, Tryd.ntmps3
  go_wp2_with (go_at_call 5; refine (fun h : Hid _ => h.out) ?_)
  unfold Hid
  rw [← Hwb.out]
  refine cZ.out.mono ?_
  rintro e w1 ⟨rfl, h1⟩
  have E := Lib.hid h1
  have BA := Lib.hid (BA.out.keep h1)
  have z1 := h1.size
  clear h1 b0 b1 b2 b3 b4 b5 b6 cZ
  obtain ⟨b0, b1, b2, b3, b4, b5, b6⟩ := BA.out.cell
  simp only at b0 b1 b2 b3 b4 b5 b6
  go_wp2_with (go_at_call 7; refine (fun h : Hid _ => h.out) ?_)
  unfold Hid
  refine (cT.out _ E.out d0 d1 d2 d3 d4).mono ?_
  rintro e w2 ⟨pd, pf, pp, pg, pr, he, h2, o2⟩
  simp only [MV.val, MV.cells] at he
  subst he
  have E := Lib.hid (E.out.trans h2)
  have BA := Lib.hid (BA.out.keep h2)
  have Op := Lib.hid o2
  have Mp := Lib.hid (MAt.of_own o2)
  have z2 : w1.heap.size ≤ w2.heap.size := h2.size
  clear h2 o2
  clear b0 b1 b2 b3 b4 b5 b6
  go_wp2_with (go_at_call 6; refine (fun h : Hid _ => h.out) ?_)
  unfold Hid
  refine (cS.out (⟨Hh, ⟨(some ⟨pd, 0, none⟩), n0, n0⟩, ⟨(some ⟨pf, 0, none⟩), n1, n1⟩, ⟨(some ⟨pp, 0, none⟩), n2, n2⟩, ⟨(some ⟨pg, 0, none⟩), n3, n3⟩, day, ⟨(some ⟨pr, 0, none⟩), n4, n4⟩⟩ : MV) w2 E.out Op.out.rd).mono ?_
  rintro e w3 ⟨lW, rfl, h3, i3⟩
  rw [← HLL.out, sv_senc] at i3
  obtain ⟨AlW, clW, rfl, -⟩ := own_form i3
  have E := Lib.hid (E.out.trans h3)
  have BA := Lib.hid (BA.out.keep h3)
  have Op := Lib.hid (Op.out.keep h3)
  have IW := Lib.hid i3
  have TW := Lib.hid (At.of_own i3)
  have z3 : w2.heap.size ≤ w3.heap.size := h3.size
  clear h3 i3
  clear Op
  clear Mp
  obtain ⟨b0, b1, b2, b3, b4, b5, b6⟩ := BA.out.cell
  simp only at b0 b1 b2 b3 b4 b5 b6
  go_wp2_with (go_at_call 7; refine (fun h : Hid _ => h.out) ?_)
  unfold Hid
  refine (cT.out _ E.out d0 d1 d2 d3 d4).mono ?_
  rintro e w4 ⟨xd, xf, xp, xg, xr, he, h4, o4⟩
  simp only [MV.val, MV.cells] at he
  subst he
  have E := Lib.hid (E.out.trans h4)
  have BA := Lib.hid (BA.out.keep h4)
  have IW := Lib.hid (own_keep IW.out h4)
  have Ox := Lib.hid o4
  have Mx := Lib.hid (MAt.of_own o4)
  have z4 : w3.heap.size ≤ w4.heap.size := h4.size
  clear h4 o4
  clear b0 b1 b2 b3 b4 b5 b6
  obtain ⟨w5, hw5⟩ : ∃ w5, w5 = w4.alloc (.cells #[.int .i64 Hh, .slice (some ⟨xd, 0, none⟩) n0 n0, .slice (some ⟨xf, 0, none⟩) n1 n1, .slice (some ⟨xp, 0, none⟩) n2 n2, .slice (some ⟨xg, 0, none⟩) n3 n3, .int .i64 day, .slice (some ⟨xr, 0, none⟩) n4 n4] 37) := ⟨_, rfl⟩
  have BX := Lib.hid (MBox.new (v := (⟨Hh, ⟨(some ⟨xd, 0, none⟩), n0, n0⟩, ⟨(some ⟨xf, 0, none⟩), n1, n1⟩, ⟨(some ⟨xp, 0, none⟩), n2, n2⟩, ⟨(some ⟨xg, 0, none⟩), n3, n3⟩, day, ⟨(some ⟨xr, 0, none⟩), n4, n4⟩⟩ : MV)) hw5)
  have hk5 : Ext w4 w5 := by rw [hw5]; exact (Ext.refl _).alloc _
  have E := Lib.hid (E.out.trans hk5)
  have BA := Lib.hid (BA.out.keep hk5)
  have IW := Lib.hid (own_keep IW.out hk5)
  have Ox := Lib.hid (Ox.out.keep hk5)
  have HW5 := Lib.hid hw5
  have z5 : w4.heap.size < w5.heap.size := BX.out.lt
  clear hk5 hw5
  obtain ⟨b0, b1, b2, b3, b4, b5, b6⟩ := BX.out.cell
  simp only at b0 b1 b2 b3 b4 b5 b6
  rw [HW5.out] at b0 b1 b2 b3 b4 b5 b6
  go_wp2_with (go_at_call 8; refine (fun h : Hid _ => h.out) ?_)
  unfold Hid
  rw [← HW5.out]
  refine (cI.out (⟨Hh, ⟨(some ⟨xd, 0, none⟩), n0, n0⟩, ⟨(some ⟨xf, 0, none⟩), n1, n1⟩, ⟨(some ⟨xp, 0, none⟩), n2, n2⟩, ⟨(some ⟨xg, 0, none⟩), n3, n3⟩, day, ⟨(some ⟨xr, 0, none⟩), n4, n4⟩⟩ : MV) w5 E.out Ox.out.rd).mono ?_
  rintro e w6 ⟨lG, rfl, h6, i6⟩
  rw [← HLL.out, sv_senc] at i6
  obtain ⟨AlG, clG, rfl, -⟩ := own_form i6
  have E := Lib.hid (E.out.trans h6)
  have BA := Lib.hid (BA.out.keep h6)
  have IW := Lib.hid (own_keep IW.out h6)
  have Ox := Lib.hid (Ox.out.keep h6)
  have BX := Lib.hid (BX.out.keep h6)
  have IG := Lib.hid i6
  have TG := Lib.hid (At.of_own i6)
  have z6 : w5.heap.size ≤ w6.heap.size := h6.size
  clear h6 i6
  clear b0 b1 b2 b3 b4 b5 b6
  go_wp2_with (go_at_call 9; refine (fun h : Hid _ => h.out) ?_)
  unfold Hid
  refine (laws_eqStringS _ _ _ _ _ _ (fmtL m) w6 (Rd.of_own IG.out) (Rd.of_own IW.out)).mono ?_
  rintro e w7 ⟨rfl, h7⟩
  have E := Lib.hid (E.out.trans h7)
  have BA := Lib.hid (BA.out.keep h7)
  have IW := Lib.hid (own_keep IW.out h7)
  have Ox := Lib.hid (Ox.out.keep h7)
  have BX := Lib.hid (BX.out.keep h7)
  have IG := Lib.hid (own_keep IG.out h7)
  have z7 : w6.heap.size ≤ w7.heap.size := h7.size
  clear h7
  go_wp2_with fail
  obtain ⟨b0, b1, b2, b3, b4, b5, b6⟩ := BA.out.cell
  simp only at b0 b1 b2 b3 b4 b5 b6
  obtain ⟨y0, y1, y2, y3, y4, y5, y6⟩ := BX.out.cell
  simp only at y0 y1 y2 y3 y4 y5 y6
  go_region_held3 (fun w' => w'.cell? ⟨w.heap.size, 0, none⟩ = some (.int .i64 Hh) ∧ w'.cell? ⟨w.heap.size, 1, none⟩ = some (.slice A0 n0 c0) ∧ w'.cell? ⟨w.heap.size, 2, none⟩ = some (.slice A1 n1 c1) ∧ w'.cell? ⟨w.heap.size, 3, none⟩ = some (.slice A2 n2 c2) ∧ w'.cell? ⟨w.heap.size, 4, none⟩ = some (.slice A3 n3 c3) ∧ w'.cell? ⟨w.heap.size, 5, none⟩ = some (.int .i64 day) ∧ w'.cell? ⟨w.heap.size, 6, none⟩ = some (.slice A4 n4 c4) ∧ w'.cell? ⟨w4.heap.size, 0, none⟩ = some (.int .i64 Hh) ∧ w'.cell? ⟨w4.heap.size, 1, none⟩ = some (.slice (some ⟨xd, 0, none⟩) n0 n0) ∧ w'.cell? ⟨w4.heap.size, 2, none⟩ = some (.slice (some ⟨xf, 0, none⟩) n1 n1) ∧ w'.cell? ⟨w4.heap.size, 3, none⟩ = some (.slice (some ⟨xp, 0, none⟩) n2 n2) ∧ w'.cell? ⟨w4.heap.size, 4, none⟩ = some (.slice (some ⟨xg, 0, none⟩) n3 n3) ∧ w'.cell? ⟨w4.heap.size, 5, none⟩ = some (.int .i64 day) ∧ w'.cell? ⟨w4.heap.size, 6, none⟩ = some (.slice (some ⟨xr, 0, none⟩) n4 n4)) (go_keep) (first
    | (go_at_call 7; refine (cT.out _ (E.out.trans ((Ext.refl _).drewN 1)) d0 d1 d2 d3 d4).mono ?_; rintro e w8 ⟨yd, yf, yp, yg, yr, he, h8, o8⟩; simp only [MV.val, MV.cells] at he; subst he; obtain ⟨s0, s1, s2, s3, s4, s5, s6⟩ := (BA.out.keep (Ext.trans ((Ext.refl _).drewN 1) h8)).cell; obtain ⟨t0, t1, t2, t3, t4, t5, t6⟩ := (BX.out.keep (Ext.trans ((Ext.refl _).drewN 1) h8)).cell; simp only at s0 s1 s2 s3 s4 s5 s6 t0 t1 t2 t3 t4 t5 t6)
    | (go_at_call 10; refine (laws_eqMuseum _ _ m _ (Ox.out.rd.keep (Ext.trans ((Ext.refl _).drewN 1) h8)) o8.rd).mono ?_; rintro e w9 ⟨rfl, h9⟩; obtain ⟨s0, s1, s2, s3, s4, s5, s6⟩ := (BA.out.keep ((Ext.trans ((Ext.refl _).drewN 1) h8).trans h9)).cell; obtain ⟨t0, t1, t2, t3, t4, t5, t6⟩ := (BX.out.keep ((Ext.trans ((Ext.refl _).drewN 1) h8).trans h9)).cell; simp only at s0 s1 s2 s3 s4 s5 s6 t0 t1 t2 t3 t4 t5 t6))
  have hX : Ext w7 w9 := ((Ext.trans ((Ext.refl _).drewN 1) h8).trans h9)
  have E := Lib.hid (E.out.trans hX)
  have BA := Lib.hid (BA.out.keep hX)
  have IW := Lib.hid (own_keep IW.out hX)
  have Ox := Lib.hid (Ox.out.keep hX)
  have BX := Lib.hid (BX.out.keep hX)
  have IG := Lib.hid (own_keep IG.out hX)
  have z9 : w7.heap.size ≤ w9.heap.size := hX.size
  clear hX h8 h9 o8
  clear b0 b1 b2 b3 b4 b5 b6 y0 y1 y2 y3 y4 y5 y6 s0 s1 s2 s3 s4 s5 s6 t0 t1 t2 t3 t4 t5 t6
  have fitx := Lib.hid (MFit.of_own Ox.out d0 d1 d2 d3 d4)
  obtain ⟨b0, b1, b2, b3, b4, b5, b6⟩ := BX.out.cell
  simp only at b0 b1 b2 b3 b4 b5 b6
  go_wp2_with (go_at_call 11; refine (fun h : Hid _ => h.out) ?_)
  unfold Hid
  obtain ⟨kx, hkx⟩ : ∃ z, z = markEnd 1 (⟨Hh, ⟨(some ⟨xd, 0, none⟩), n0, n0⟩, ⟨(some ⟨xf, 0, none⟩), n1, n1⟩, ⟨(some ⟨xp, 0, none⟩), n2, n2⟩, ⟨(some ⟨xg, 0, none⟩), n3, n3⟩, day, ⟨(some ⟨xr, 0, none⟩), n4, n4⟩⟩ : MV) := ⟨_, rfl⟩
  have nkx : 0 ≤ kx ∧ kx ≤ 100000000 := by rw [hkx]; exact markEnd_leF fitx.out
  refine (laws_markMuseum (⟨Hh, ⟨(some ⟨xd, 0, none⟩), n0, n0⟩, ⟨(some ⟨xf, 0, none⟩), n1, n1⟩, ⟨(some ⟨xp, 0, none⟩), n2, n2⟩, ⟨(some ⟨xg, 0, none⟩), n3, n3⟩, day, ⟨(some ⟨xr, 0, none⟩), n4, n4⟩⟩ : MV) (m) 1 w3.heap.size w4.heap.size w9 Ox.out Mx.out fitx.out (by omega) (by omega) (by omega)).mono ?_
  rintro e w10 ⟨he, o10, k10⟩
  rw [← hkx] at he
  subst he
  have E := Lib.hid (k10.ext E.out (by omega))
  have z10 : w9.heap.size ≤ w10.heap.size := k10.size
  clear b0 b1 b2 b3 b4 b5 b6
  have BA := Lib.hid (BA.out.out k10 (.inl (by omega)))
  have IW := Lib.hid (k10.own IW.out (fun g hg => .inl (by have := (TW.out g hg).2; omega)))
  have IG := Lib.hid (k10.own IG.out (fun g hg => .inr (by have := (TG.out g hg).1; omega)))
  have nkx2 : ¬ kx < 0 := by omega
  clear k10 o10 BX Ox hkx
  go_wp2_with (go_at_call 9; refine (fun h : Hid _ => h.out) ?_)
  unfold Hid
  refine (laws_eqStringS _ _ _ _ _ _ (fmtL m) w10 (Rd.of_own IG.out) (Rd.of_own IW.out)).mono ?_
  rintro e w11 ⟨rfl, h11⟩
  have E := Lib.hid (E.out.trans h11)
  have BA := Lib.hid (BA.out.keep h11)
  have IW := Lib.hid (own_keep IW.out h11)
  have IG := Lib.hid (own_keep IG.out h11)
  have z11 : w10.heap.size ≤ w11.heap.size := h11.size
  clear h11
  go_wp2_with (go_at_call 12; refine (fun h : Hid _ => h.out) ?_)
  unfold Hid
  refine (laws_markStringS _ _ _ 1 _ _ w11 IG.out (by omega) (by omega) (by omega)).mono ?_
  rintro e w12 ⟨rfl, o12, g12⟩
  have k12 := KeptOut.of_at g12 TG.out
  have E := Lib.hid (k12.ext E.out (by omega))
  have z12 : w11.heap.size ≤ w12.heap.size := g12.size
  have BA := Lib.hid (BA.out.out k12 (.inl (by omega)))
  have IW := Lib.hid (k12.own IW.out (fun g hg => .inl (by have := (TW.out g hg).2; omega)))
  have IM := Lib.hid o12
  clear k12 o12 g12 IG
  have nk4 : ¬ (1 + (LL : Int) < 0) := by omega
  go_wp2_with (go_at_call 13; refine (fun h : Hid _ => h.out) ?_)
  unfold Hid
  refine (laws_heldStringS _ _ _ 1 w12 (Rd.of_own IM.out) (by omega) (by omega) (by omega)).mono ?_
  rintro e w13 ⟨rfl, h13⟩
  have E := Lib.hid (E.out.trans h13)
  have BA := Lib.hid (BA.out.keep h13)
  have IW := Lib.hid (own_keep IW.out h13)
  have IM := Lib.hid (own_keep IM.out h13)
  have z13 : w12.heap.size ≤ w13.heap.size := h13.size
  clear h13
  obtain ⟨b0, b1, b2, b3, b4, b5, b6⟩ := BA.out.cell
  simp only at b0 b1 b2 b3 b4 b5 b6
  go_wp2_with (go_at_call 7; refine (fun h : Hid _ => h.out) ?_)
  unfold Hid
  refine (cT.out _ E.out d0 d1 d2 d3 d4).mono ?_
  rintro e w14 ⟨hd, hf, hp, hg, hr, he, h14, o14⟩
  simp only [MV.val, MV.cells] at he
  subst he
  have E := Lib.hid (E.out.trans h14)
  have BA := Lib.hid (BA.out.keep h14)
  have IW := Lib.hid (own_keep IW.out h14)
  have IM := Lib.hid (own_keep IM.out h14)
  have Oh := Lib.hid o14
  have Mh := Lib.hid (MAt.of_own o14)
  have z14 : w13.heap.size ≤ w14.heap.size := h14.size
  clear h14 o14
  clear b0 b1 b2 b3 b4 b5 b6
  go_wp2_with (go_at_call 8; refine (fun h : Hid _ => h.out) ?_)
  unfold Hid
  refine (cI.out (⟨Hh, ⟨(some ⟨hd, 0, none⟩), n0, n0⟩, ⟨(some ⟨hf, 0, none⟩), n1, n1⟩, ⟨(some ⟨hp, 0, none⟩), n2, n2⟩, ⟨(some ⟨hg, 0, none⟩), n3, n3⟩, day, ⟨(some ⟨hr, 0, none⟩), n4, n4⟩⟩ : MV) w14 E.out Oh.out.rd).mono ?_
  rintro e w15 ⟨lU, rfl, h15, i15⟩
  rw [← HLL.out, sv_senc] at i15
  obtain ⟨AlU, clU, rfl, -⟩ := own_form i15
  have E := Lib.hid (E.out.trans h15)
  have BA := Lib.hid (BA.out.keep h15)
  have IW := Lib.hid (own_keep IW.out h15)
  have IM := Lib.hid (own_keep IM.out h15)
  have Oh := Lib.hid (Oh.out.keep h15)
  have IU := Lib.hid i15
  have TU := Lib.hid (At.of_own i15)
  have z15 : w14.heap.size ≤ w15.heap.size := h15.size
  clear h15 i15
  clear Oh
  clear Mh
  go_wp2_with (go_at_call 9; refine (fun h : Hid _ => h.out) ?_)
  unfold Hid
  refine (laws_eqStringS _ _ _ _ _ _ (fmtL m) w15 (Rd.of_own IU.out) (Rd.of_own IW.out)).mono ?_
  rintro e w16 ⟨rfl, h16⟩
  have E := Lib.hid (E.out.trans h16)
  have BA := Lib.hid (BA.out.keep h16)
  have IW := Lib.hid (own_keep IW.out h16)
  have IM := Lib.hid (own_keep IM.out h16)
  have IU := Lib.hid (own_keep IU.out h16)
  have z16 : w15.heap.size ≤ w16.heap.size := h16.size
  clear h16
  go_wp2_with (go_at_call 13; refine (fun h : Hid _ => h.out) ?_)
  unfold Hid
  refine (laws_heldStringS _ _ _ 1 w16 (Rd.of_own IM.out) (by omega) (by omega) (by omega)).mono ?_
  rintro e w17 ⟨rfl, h17⟩
  have E := Lib.hid (E.out.trans h17)
  have BA := Lib.hid (BA.out.keep h17)
  have IW := Lib.hid (own_keep IW.out h17)
  have IM := Lib.hid (own_keep IM.out h17)
  have IU := Lib.hid (own_keep IU.out h17)
  have z17 : w16.heap.size ≤ w17.heap.size := h17.size
  clear h17
  go_wp2_with fail
  go_ret
  exact ⟨rfl, HE.out.trans E.out⟩
end Go.Proofs.YtkelmeemblmggaaDoor
/- What a row that lists the tables gives: the powers of ten stand; no condition. -/
namespace Go.Proofs.YtkelmeemblmggaaDoor
set_option linter.unusedSimpArgs false
set_option linter.unusedVariables false
open Go.RowKit
theorem tab_laid {W : World} (h : laidMetH Tryd.prog [("math/bits.deBruijn32tab", Rows.laid_math_bits_deBruijn32tab), ("math/bits.deBruijn64tab", Rows.laid_math_bits_deBruijn64tab), ("internal/strconv.uint64pow10", Rows.laid_internal_strconv_uint64pow10)] W) :
    Lib.TabIs Tryd.prog W "internal/strconv.uint64pow10" .u64 Lib.pow10Tab := by
  rw [MakeChecks.laidMetH_plain _ _ _ (by kernel_rfl)] at h
  obtain ⟨ps, ⟨g0, t0, cs0, f0, p0, q0, hg0, ht0, hv0, hd0, ⟨g1, t1, cs1, f1, p1, q1, hg1, ht1, hv1, hd1, ⟨g2, t2, cs2, f2, p2, q2, hg2, ht2, hv2, hd2, _, _⟩, _⟩, _⟩, _, _⟩ := h
  have hgt : (Tryd.prog.globals[g2]?).map (·.type) = some 150 := by
    have : (Tryd.prog.globalNamed "internal/strconv.uint64pow10").bind (fun g => (Tryd.prog.globals[g]?).map (·.type)) = some 150 := by kernel_rfl
    rw [hg2] at this
    exact this
  obtain rfl := Option.some.inj (hgt.symm.trans ht2)
  rw [show (Rows.laid_internal_strconv_uint64pow10 : DataW Unit) = Lib.tabData .u64 Lib.pow10Tab by kernel_rfl] at hd2
  unfold Lib.TabIs
  rw [hv2, ← Lib.cells_of_tab (n := 20) Tryd.underlying150 Tryd.underlying135 (by kernel_rfl) (by kernel_rfl) hd2]
end Go.Proofs.YtkelmeemblmggaaDoor
