/- Texts of one proof, laid one behind the other (NM9); no condition but what stands at each theorem. -/
import Derived.Test.YtkelmeemblmggaaGreatDoorZK
import Derived.Test.YtkelmeemblmggaaGreatDoorZY
/- The walk of the law on RunActs; no condition but what stands at each theorem. -/
namespace Go.Proofs.YtkelmeemblmggaaGreatDoor
set_option linter.unusedSimpArgs false
set_option linter.unusedVariables false
open Go.RowKit Go.Sort
theorem runM_lens (m : GMuseum) (xs : List GAct) : LensOk m (runM m xs) := by
  unfold runM
  split
  · exact run_lens xs m []
  · exact LensOk.refl m
theorem runL_len (m : GMuseum) (xs : List GAct) : (runL m xs).length ≤ 40 := by
  unfold runL
  split
  · rename_i h
    unfold runB at h
    simp only [Bool.and_eq_true, decide_eq_true_eq] at h
    rw [run_len]
    simpa using h.2
  · simp
theorem run_fit {w : World} {base : Nat} {v v' : MV} {m : GMuseum} {xs : List GAct} (h : MOwn w base v (runM m xs)) {w' : World} (hx : MRd w' v' m) (hd : v'.sd.n ≤ 1048576) (hf : v'.sf.n ≤ 1048576) (hp : v'.sp.n ≤ 1048576) (hg : v'.sg.n ≤ 1048576) (hr : v'.sr.n ≤ 1048576) : MFit v := by
  obtain ⟨a1, a2, a3, a4, a5⟩ := h.rd.lens
  obtain ⟨b1, b2, b3, b4, b5⟩ := hx.lens
  obtain ⟨c1, c2, c3, c4, c5⟩ := runM_lens m xs
  exact MFit.of_own h (by omega) (by omega) (by omega) (by omega) (by omega)
theorem markEnd_le {v : MV} (h : MFit v) : 0 ≤ markEnd 1 v ∧ markEnd 1 v ≤ 100000000 := by
  have d1 := h.nd
  have d2 := h.nf
  have d3 := h.np
  have d4 := h.ng
  have d5 := h.nr
  unfold markEnd mk4 mk3 mk2 mk1
  omega
set_option maxRecDepth 100000 in
set_option maxHeartbeats 8000000 in
theorem law_RunActs (v : MV) (m : GMuseum) (A5 : Option Addr) (n5 c5 : Nat) (xs : List GAct) (w : World) (hx : MRd w v m) (hxa : Rd w 5 A5 n5 (xs.flatMap GAct.enc)) (hM : Hid (∃ k, w.cell? ⟨0, 0, none⟩ = some (.int .i64 k))) :
    Calls Tryz.prog 14 #[v.val, .slice A5 n5 c5] w fun e w' => e = .returned (.bool true) ∧ Ext w w' := by
  have hn5 := hxa.2.1
  obtain ⟨wb, hwb⟩ : ∃ wb, wb = w.alloc (.cells v.cells 49) := ⟨_, rfl⟩
  have hbx := MBox.new hwb
  have hE : Ext w wb := by rw [hwb]; exact (Ext.refl w).alloc _
  have HX := Lib.hid (hx.keep hE)
  have HA := Lib.hid (hxa.keep hE)
  have HMX := Lib.hid (max_ext hM.out hE)
  have cZ := Lib.hid (laws_szMuseum v m 1048576 wb HX.out (by omega) (by omega))
  have hbd : Hid (bulkM v m ≤ 1048576 → v.sd.n ≤ 1048576 ∧ v.sf.n ≤ 1048576 ∧ v.sp.n ≤ 1048576 ∧ v.sg.n ≤ 1048576 ∧ v.sr.n ≤ 1048576) := bulk_bdN
  have hb0 : 0 ≤ bulkM v m := by (have := bulkE_nn m.rs; unfold bulkM; omega)
  have cT := Lib.hid (fun W (he : Ext wb W) a b c d f => laws_toMuseum v m W (HX.out.keep he) a b c d f)
  obtain ⟨bk, hbk⟩ : ∃ bk, bk = bulkM v m := ⟨_, rfl⟩
  rw [← hbk] at cZ hbd hb0
  obtain ⟨Hh, ⟨A0, n0, c0⟩, ⟨A1, n1, c1⟩, ⟨A2, n2, c2⟩, ⟨A3, n3, c3⟩, day, ⟨A4, n4, c4⟩⟩ := v
  have HE := Lib.hid hE
  have Hwb : Hid (wb = w.alloc (.cells #[.int .i64 Hh, .slice A0 n0 c0, .slice A1 n1 c1, .slice A2 n2 c2, .slice A3 n3 c3, .int .i64 day, .slice A4 n4 c4] 49)) := hwb
  have BA := Lib.hid hbx
  have hbl := hbx.lt
  clear hE hwb hbx hx hbk hxa
  show Calls Tryz.prog 14 #[.agg #[.int .i64 Hh, .slice A0 n0 c0, .slice A1 n1 c1, .slice A2 n2 c2, .slice A3 n3 c3, .int .i64 day, .slice A4 n4 c4], .slice A5 n5 c5] w _
  obtain ⟨b0, b1, b2, b3, b4, b5, b6⟩ := BA.out.cell
  simp only at b0 b1 b2 b3 b4 b5 b6
  by_cases q : bk ≤ 1048576
  case neg =>
    rw [if_pos (by omega)] at cZ
    go_enter Tryz.func14, Tryz.ntmps14
    go_wp2_with (go_at_call 24; refine (fun h : Hid _ => h.out) ?_)
    unfold Hid
    rw [← Hwb.out]
    refine cZ.out.mono ?_
    rintro e w1 ⟨rfl, h1⟩
    have HE1 := Lib.hid h1
    clear h1 b0 b1 b2 b3 b4 b5 b6
    go_wp2_with fail
    go_ret
    exact ⟨rfl, HE.out.trans HE1.out⟩
  rw [if_neg (by omega)] at cZ
  obtain ⟨d0, d1, d2, d3, d4⟩ := hbd.out q
  simp only at d0 d1 d2 d3 d4
  have hnb : ¬ (1048576 - bk < 0) := by omega
  have cY := fun W => laws_szActS A5 n5 c5 (1048576 - bk) W (by omega) (by omega) hn5
  by_cases qa : (n5 : Int) ≤ 1048576 - bk
  case neg =>
    have cY' := fun W => cY W
    simp only [if_pos (show 1048576 - bk < (n5 : Int) by omega)] at cY'
    go_enter Tryz.func14, Tryz.ntmps14
    go_wp2_with (go_at_call 24; refine (fun h : Hid _ => h.out) ?_)
    unfold Hid
    rw [← Hwb.out]
    refine cZ.out.mono ?_
    rintro e w1 ⟨rfl, h1⟩
    have HE1 := Lib.hid h1
    clear h1 b0 b1 b2 b3 b4 b5 b6
    go_wp2_with (go_at_call 50; refine (fun h : Hid _ => h.out) ?_)
    unfold Hid
    refine (cY' _).mono ?_
    rintro e w2 ⟨rfl, rfl⟩
    go_wp2_with fail
    go_ret
    exact ⟨rfl, HE.out.trans HE1.out⟩
  simp only [if_neg (show ¬ 1048576 - bk < (n5 : Int) by omega)] at cY
  have hnb2 : ¬ (1048576 - bk - (n5 : Int) < 0) := by omega
  have hn5' : n5 ≤ 1048576 := by omega
  have cS := Lib.hid (fun v A c W (_ : Ext wb W) (h : MRd W v m) (f : MFit v) (ha : Rd W 5 A n5 (xs.flatMap GAct.enc)) => spec_RunActs v m A n5 c xs W h f ha)
  have cI := Lib.hid (fun v A c W (he : Ext wb W) (h : MRd W v m) (f : MFit v) (ha : Rd W 5 A n5 (xs.flatMap GAct.enc)) => impl_RunActs v m A n5 c xs W h f ha (Lib.hid (max_ext HMX.out he)))
  have hLn := runL_len m xs
  obtain ⟨LL, hLL⟩ : ∃ LL, LL = (runL m xs).length := ⟨_, rfl⟩
  have HLL := Lib.hid hLL
  rw [← hLL] at hLn
  clear hbd q qa hLL
  go_enter Tryz.func14, Tryz.ntmps14
  go_wp2_with (go_at_call 24; refine (fun h : Hid _ => h.out) ?_)
  unfold Hid
  rw [← Hwb.out]
  refine cZ.out.mono ?_
  rintro e w1 ⟨rfl, h1⟩
  have E := Lib.hid h1
  have BA := Lib.hid (BA.out.keep h1)
  have z1 := h1.size
  clear h1 b0 b1 b2 b3 b4 b5 b6 cZ
  go_wp2_with (go_at_call 50; refine (fun h : Hid _ => h.out) ?_)
  unfold Hid
  refine (cY _).mono ?_
  rintro e w1' ⟨rfl, rfl⟩
  clear cY
  obtain ⟨b0, b1, b2, b3, b4, b5, b6⟩ := BA.out.cell
  simp only at b0 b1 b2 b3 b4 b5 b6
  go_wp2_with (go_at_call 26; refine (fun h : Hid _ => h.out) ?_)
  unfold Hid
  refine (cT.out _ E.out d0 d1 d2 d3 d4).mono ?_
  rintro e w2 ⟨pd, pf, pp, pg, pr, he, h2, o2⟩
  simp only [MV.val, MV.cells] at he
  subst he
  have E := Lib.hid (E.out.trans h2)
  have BA := Lib.hid (BA.out.keep h2)
  have Op := Lib.hid o2
  have Mp := Lib.hid (MAt.of_own o2)
  have z2 : w1.heap.size ≤ w2.heap.size := h2.size
  clear h2 o2
  clear b0 b1 b2 b3 b4 b5 b6
  go_wp2_with (go_at_call 52; refine (fun h : Hid _ => h.out) ?_)
  unfold Hid
  refine (laws_toActS A5 n5 c5 xs w2 (HA.out.keep E.out) hn5').mono ?_
  rintro e w3 ⟨pa, rfl, h3, o3⟩
  have E := Lib.hid (E.out.trans h3)
  have BA := Lib.hid (BA.out.keep h3)
  have Op := Lib.hid (Op.out.keep h3)
  have Lp := Lib.hid o3
  have z3 : w2.heap.size ≤ w3.heap.size := h3.size
  clear h3 o3
  go_wp2_with (go_at_call 61; refine (fun h : Hid _ => h.out) ?_)
  unfold Hid
  refine (cS.out (⟨Hh, ⟨(some ⟨pd, 0, none⟩), n0, n0⟩, ⟨(some ⟨pf, 0, none⟩), n1, n1⟩, ⟨(some ⟨pp, 0, none⟩), n2, n2⟩, ⟨(some ⟨pg, 0, none⟩), n3, n3⟩, day, ⟨(some ⟨pr, 0, none⟩), n4, n4⟩⟩ : MV) _ _ w3 E.out Op.out.rd (MFit.of_own Op.out d0 d1 d2 d3 d4) (Rd.of_own Lp.out)).mono ?_
  rintro e w4 ⟨vW, lW, hev, h4, o4, i4, a4, r4⟩
  obtain ⟨HW, ⟨AW0, nW0, kW0⟩, ⟨AW1, nW1, kW1⟩, ⟨AW2, nW2, kW2⟩, ⟨AW3, nW3, kW3⟩, dW, ⟨AW4, nW4, kW4⟩⟩ := vW
  simp only [MV.val, MV.cells] at hev
  subst hev
  obtain ⟨AlW, clW, rfl, -⟩ := own_form i4
  obtain ⟨loW, hiW, qW1, qW2, qW3, qW4⟩ := r4
  have E := Lib.hid (E.out.trans h4)
  have BA := Lib.hid (BA.out.keep h4)
  have Op := Lib.hid (Op.out.keep h4)
  have Lp := Lib.hid (own_keep Lp.out h4)
  have FW := Lib.hid (run_fit o4 HX.out d0 d1 d2 d3 d4)
  have OW := Lib.hid (o4.base qW3)
  have MW := Lib.hid qW3
  have IW := Lib.hid i4
  have PW := Lib.hid a4
  have QW := Lib.hid qW4
  have TW := Lib.hid (At.of_own i4)
  have z4 : w3.heap.size ≤ w4.heap.size := h4.size
  clear h4 o4 i4 a4 qW3 qW4
  clear Op Lp
  clear Mp
  have IW := Lib.hid (show World.ownsRow _ _ _ _ (.slice AlW LL clW) LL _ from by rw [HLL.out]; exact IW.out)
  rw [← HLL.out]
  obtain ⟨w5, hw5⟩ : ∃ w5, w5 = w4.alloc (.cells #[.int .i64 HW, .slice AW0 nW0 kW0, .slice AW1 nW1 kW1, .slice AW2 nW2 kW2, .slice AW3 nW3 kW3, .int .i64 dW, .slice AW4 nW4 kW4] 30) := ⟨_, rfl⟩
  have BW := Lib.hid (MBox.new (v := (⟨HW, ⟨AW0, nW0, kW0⟩, ⟨AW1, nW1, kW1⟩, ⟨AW2, nW2, kW2⟩, ⟨AW3, nW3, kW3⟩, dW, ⟨AW4, nW4, kW4⟩⟩ : MV)) hw5)
  have hk5 : Ext w4 w5 := by rw [hw5]; exact (Ext.refl _).alloc _
  have E := Lib.hid (E.out.trans hk5)
  have BA := Lib.hid (BA.out.keep hk5)
  have OW := Lib.hid (OW.out.keep hk5)
  have IW := Lib.hid (own_keep IW.out hk5)
  have HW5 := Lib.hid hw5
  have z5 : w4.heap.size < w5.heap.size := BW.out.lt
  clear hk5 hw5
  obtain ⟨b0, b1, b2, b3, b4, b5, b6⟩ := BA.out.cell
  simp only at b0 b1 b2 b3 b4 b5 b6
  rw [HW5.out] at b0 b1 b2 b3 b4 b5 b6
  go_wp2_with (go_at_call 26; refine (fun h : Hid _ => h.out) ?_)
  unfold Hid
  rw [← HW5.out]
  refine (cT.out _ E.out d0 d1 d2 d3 d4).mono ?_
  rintro e w6 ⟨xd, xf, xp, xg, xr, he, h6, o6⟩
  simp only [MV.val, MV.cells] at he
  subst he
  have E := Lib.hid (E.out.trans h6)
  have BA := Lib.hid (BA.out.keep h6)
  have OW := Lib.hid (OW.out.keep h6)
  have IW := Lib.hid (own_keep IW.out h6)
  have BW := Lib.hid (BW.out.keep h6)
  have Ox := Lib.hid o6
  have Mx := Lib.hid (MAt.of_own o6)
  have z6 : w5.heap.size ≤ w6.heap.size := h6.size
  clear h6 o6
  clear b0 b1 b2 b3 b4 b5 b6
  obtain ⟨w7, hw7⟩ : ∃ w7, w7 = w6.alloc (.cells #[.int .i64 Hh, .slice (some ⟨xd, 0, none⟩) n0 n0, .slice (some ⟨xf, 0, none⟩) n1 n1, .slice (some ⟨xp, 0, none⟩) n2 n2, .slice (some ⟨xg, 0, none⟩) n3 n3, .int .i64 day, .slice (some ⟨xr, 0, none⟩) n4 n4] 30) := ⟨_, rfl⟩
  have BX := Lib.hid (MBox.new (v := (⟨Hh, ⟨(some ⟨xd, 0, none⟩), n0, n0⟩, ⟨(some ⟨xf, 0, none⟩), n1, n1⟩, ⟨(some ⟨xp, 0, none⟩), n2, n2⟩, ⟨(some ⟨xg, 0, none⟩), n3, n3⟩, day, ⟨(some ⟨xr, 0, none⟩), n4, n4⟩⟩ : MV)) hw7)
  have hk7 : Ext w6 w7 := by rw [hw7]; exact (Ext.refl _).alloc _
  have E := Lib.hid (E.out.trans hk7)
  have BA := Lib.hid (BA.out.keep hk7)
  have OW := Lib.hid (OW.out.keep hk7)
  have IW := Lib.hid (own_keep IW.out hk7)
  have BW := Lib.hid (BW.out.keep hk7)
  have Ox := Lib.hid (Ox.out.keep hk7)
  have HW7 := Lib.hid hw7
  have z7 : w6.heap.size < w7.heap.size := BX.out.lt
  clear hk7 hw7
  go_wp2_with (go_at_call 52; refine (fun h : Hid _ => h.out) ?_)
  unfold Hid
  rw [← HW7.out]
  refine (laws_toActS A5 n5 c5 xs w7 (HA.out.keep E.out) hn5').mono ?_
  rintro e w8 ⟨xa, rfl, h8, o8⟩
  have E := Lib.hid (E.out.trans h8)
  have BA := Lib.hid (BA.out.keep h8)
  have OW := Lib.hid (OW.out.keep h8)
  have IW := Lib.hid (own_keep IW.out h8)
  have BW := Lib.hid (BW.out.keep h8)
  have Ox := Lib.hid (Ox.out.keep h8)
  have BX := Lib.hid (BX.out.keep h8)
  have Lx := Lib.hid o8
  have z8 : w7.heap.size ≤ w8.heap.size := h8.size
  clear h8 o8
  have Tx := Lib.hid (At.of_own Lx.out)
  obtain ⟨b0, b1, b2, b3, b4, b5, b6⟩ := BX.out.cell
  simp only at b0 b1 b2 b3 b4 b5 b6
  go_wp2_with (go_at_call 41; refine (fun h : Hid _ => h.out) ?_)
  unfold Hid
  refine (cI.out (⟨Hh, ⟨(some ⟨xd, 0, none⟩), n0, n0⟩, ⟨(some ⟨xf, 0, none⟩), n1, n1⟩, ⟨(some ⟨xp, 0, none⟩), n2, n2⟩, ⟨(some ⟨xg, 0, none⟩), n3, n3⟩, day, ⟨(some ⟨xr, 0, none⟩), n4, n4⟩⟩ : MV) _ _ w8 E.out Ox.out.rd (MFit.of_own Ox.out d0 d1 d2 d3 d4) (Rd.of_own Lx.out)).mono ?_
  rintro e w9 ⟨vG, lG, hev, h9, o9, i9, a9, r9⟩
  obtain ⟨HG, ⟨AG0, nG0, kG0⟩, ⟨AG1, nG1, kG1⟩, ⟨AG2, nG2, kG2⟩, ⟨AG3, nG3, kG3⟩, dG, ⟨AG4, nG4, kG4⟩⟩ := vG
  simp only [MV.val, MV.cells] at hev
  subst hev
  obtain ⟨AlG, clG, rfl, -⟩ := own_form i9
  obtain ⟨loG, hiG, qG1, qG2, qG3, qG4⟩ := r9
  have E := Lib.hid (E.out.trans h9)
  have BA := Lib.hid (BA.out.keep h9)
  have OW := Lib.hid (OW.out.keep h9)
  have IW := Lib.hid (own_keep IW.out h9)
  have BW := Lib.hid (BW.out.keep h9)
  have Ox := Lib.hid (Ox.out.keep h9)
  have BX := Lib.hid (BX.out.keep h9)
  have Lx := Lib.hid (own_keep Lx.out h9)
  have FG := Lib.hid (run_fit o9 HX.out d0 d1 d2 d3 d4)
  have OG := Lib.hid (o9.base qG3)
  have MG := Lib.hid qG3
  have IG := Lib.hid i9
  have PG := Lib.hid a9
  have QG := Lib.hid qG4
  have TG := Lib.hid (At.of_own i9)
  have z9 : w8.heap.size ≤ w9.heap.size := h9.size
  clear h9 o9 i9 a9 qG3 qG4
  clear b0 b1 b2 b3 b4 b5 b6
  have IG := Lib.hid (show World.ownsRow _ _ _ _ (.slice AlG LL clG) LL _ from by rw [HLL.out]; exact IG.out)
  rw [← HLL.out]
  have TG : Hid (At w8.heap.size w9.heap.size (.slice AlG LL clG)) := Lib.hid (by rw [HLL.out]; exact TG.out)
  have PG : Hid (MApart (⟨HG, ⟨AG0, nG0, kG0⟩, ⟨AG1, nG1, kG1⟩, ⟨AG2, nG2, kG2⟩, ⟨AG3, nG3, kG3⟩, dG, ⟨AG4, nG4, kG4⟩⟩ : MV) (.slice AlG LL clG)) := Lib.hid (by rw [HLL.out]; exact PG.out)
  have QG : Hid (∀ g, (Value.slice AlG LL clG).ownBlock = some g → g < loG ∨ hiG ≤ g) := Lib.hid (by rw [HLL.out]; exact QG.out)
  obtain ⟨w10, hw10⟩ : ∃ w10, w10 = w9.alloc (.cells #[.int .i64 HG, .slice AG0 nG0 kG0, .slice AG1 nG1 kG1, .slice AG2 nG2 kG2, .slice AG3 nG3 kG3, .int .i64 dG, .slice AG4 nG4 kG4] 30) := ⟨_, rfl⟩
  have BG := Lib.hid (MBox.new (v := (⟨HG, ⟨AG0, nG0, kG0⟩, ⟨AG1, nG1, kG1⟩, ⟨AG2, nG2, kG2⟩, ⟨AG3, nG3, kG3⟩, dG, ⟨AG4, nG4, kG4⟩⟩ : MV)) hw10)
  have hk10 : Ext w9 w10 := by rw [hw10]; exact (Ext.refl _).alloc _
  have E := Lib.hid (E.out.trans hk10)
  have BA := Lib.hid (BA.out.keep hk10)
  have OW := Lib.hid (OW.out.keep hk10)
  have IW := Lib.hid (own_keep IW.out hk10)
  have BW := Lib.hid (BW.out.keep hk10)
  have Ox := Lib.hid (Ox.out.keep hk10)
  have BX := Lib.hid (BX.out.keep hk10)
  have Lx := Lib.hid (own_keep Lx.out hk10)
  have OG := Lib.hid (OG.out.keep hk10)
  have IG := Lib.hid (own_keep IG.out hk10)
  have HW10 := Lib.hid hw10
  have z10 : w9.heap.size < w10.heap.size := BG.out.lt
  clear hk10 hw10
  obtain ⟨b0, b1, b2, b3, b4, b5, b6⟩ := BG.out.cell
  simp only at b0 b1 b2 b3 b4 b5 b6
  obtain ⟨y0, y1, y2, y3, y4, y5, y6⟩ := BW.out.cell
  simp only at y0 y1 y2 y3 y4 y5 y6
  rw [HW10.out] at b0 b1 b2 b3 b4 b5 b6 y0 y1 y2 y3 y4 y5 y6
  go_wp2_with (go_at_call 29; refine (fun h : Hid _ => h.out) ?_)
  unfold Hid
  rw [← HW10.out]
  refine (laws_eqMuseum (⟨HG, ⟨AG0, nG0, kG0⟩, ⟨AG1, nG1, kG1⟩, ⟨AG2, nG2, kG2⟩, ⟨AG3, nG3, kG3⟩, dG, ⟨AG4, nG4, kG4⟩⟩ : MV) (⟨HW, ⟨AW0, nW0, kW0⟩, ⟨AW1, nW1, kW1⟩, ⟨AW2, nW2, kW2⟩, ⟨AW3, nW3, kW3⟩, dW, ⟨AW4, nW4, kW4⟩⟩ : MV) (runM m xs) w10 OG.out.rd OW.out.rd).mono ?_
  rintro e w11 ⟨rfl, h11⟩
  have E := Lib.hid (E.out.trans h11)
  have BA := Lib.hid (BA.out.keep h11)
  have OW := Lib.hid (OW.out.keep h11)
  have IW := Lib.hid (own_keep IW.out h11)
  have BW := Lib.hid (BW.out.keep h11)
  have Ox := Lib.hid (Ox.out.keep h11)
  have BX := Lib.hid (BX.out.keep h11)
  have Lx := Lib.hid (own_keep Lx.out h11)
  have OG := Lib.hid (OG.out.keep h11)
  have IG := Lib.hid (own_keep IG.out h11)
  have BG := Lib.hid (BG.out.keep h11)
  have z11 : w10.heap.size ≤ w11.heap.size := h11.size
  clear h11
  clear b0 b1 b2 b3 b4 b5 b6 y0 y1 y2 y3 y4 y5 y6
  go_wp2_with (go_at_call 55; refine (fun h : Hid _ => h.out) ?_)
  unfold Hid
  refine (laws_eqIntS _ _ _ _ _ _ (runL m xs) w11 (Rd.of_own IG.out) (Rd.of_own IW.out)).mono ?_
  rintro e w12 ⟨rfl, h12⟩
  have E := Lib.hid (E.out.trans h12)
  have BA := Lib.hid (BA.out.keep h12)
  have OW := Lib.hid (OW.out.keep h12)
  have IW := Lib.hid (own_keep IW.out h12)
  have BW := Lib.hid (BW.out.keep h12)
  have Ox := Lib.hid (Ox.out.keep h12)
  have BX := Lib.hid (BX.out.keep h12)
  have Lx := Lib.hid (own_keep Lx.out h12)
  have OG := Lib.hid (OG.out.keep h12)
  have IG := Lib.hid (own_keep IG.out h12)
  have BG := Lib.hid (BG.out.keep h12)
  have z12 : w11.heap.size ≤ w12.heap.size := h12.size
  clear h12
  go_wp2_with fail
  obtain ⟨b0, b1, b2, b3, b4, b5, b6⟩ := BA.out.cell
  simp only at b0 b1 b2 b3 b4 b5 b6
  obtain ⟨y0, y1, y2, y3, y4, y5, y6⟩ := BX.out.cell
  simp only at y0 y1 y2 y3 y4 y5 y6
  go_region_held3 (fun w' => w'.cell? ⟨w.heap.size, 0, none⟩ = some (.int .i64 Hh) ∧ w'.cell? ⟨w.heap.size, 1, none⟩ = some (.slice A0 n0 c0) ∧ w'.cell? ⟨w.heap.size, 2, none⟩ = some (.slice A1 n1 c1) ∧ w'.cell? ⟨w.heap.size, 3, none⟩ = some (.slice A2 n2 c2) ∧ w'.cell? ⟨w.heap.size, 4, none⟩ = some (.slice A3 n3 c3) ∧ w'.cell? ⟨w.heap.size, 5, none⟩ = some (.int .i64 day) ∧ w'.cell? ⟨w.heap.size, 6, none⟩ = some (.slice A4 n4 c4) ∧ w'.cell? ⟨w6.heap.size, 0, none⟩ = some (.int .i64 Hh) ∧ w'.cell? ⟨w6.heap.size, 1, none⟩ = some (.slice (some ⟨xd, 0, none⟩) n0 n0) ∧ w'.cell? ⟨w6.heap.size, 2, none⟩ = some (.slice (some ⟨xf, 0, none⟩) n1 n1) ∧ w'.cell? ⟨w6.heap.size, 3, none⟩ = some (.slice (some ⟨xp, 0, none⟩) n2 n2) ∧ w'.cell? ⟨w6.heap.size, 4, none⟩ = some (.slice (some ⟨xg, 0, none⟩) n3 n3) ∧ w'.cell? ⟨w6.heap.size, 5, none⟩ = some (.int .i64 day) ∧ w'.cell? ⟨w6.heap.size, 6, none⟩ = some (.slice (some ⟨xr, 0, none⟩) n4 n4)) (go_keep) (first
    | (go_at_call 26; refine (cT.out _ (E.out.trans ((Ext.refl _).drewN 1)) d0 d1 d2 d3 d4).mono ?_; rintro e w13 ⟨yd, yf, yp, yg, yr, he, h13, o13⟩; simp only [MV.val, MV.cells] at he; subst he; obtain ⟨s0, s1, s2, s3, s4, s5, s6⟩ := (BA.out.keep (Ext.trans ((Ext.refl _).drewN 1) h13)).cell; obtain ⟨t0, t1, t2, t3, t4, t5, t6⟩ := (BX.out.keep (Ext.trans ((Ext.refl _).drewN 1) h13)).cell; simp only at s0 s1 s2 s3 s4 s5 s6 t0 t1 t2 t3 t4 t5 t6)
    | (go_at_call 29; refine (laws_eqMuseum _ _ m _ (Ox.out.rd.keep (Ext.trans ((Ext.refl _).drewN 1) h13)) o13.rd).mono ?_; rintro e w14 ⟨rfl, h14⟩; obtain ⟨s0, s1, s2, s3, s4, s5, s6⟩ := (BA.out.keep ((Ext.trans ((Ext.refl _).drewN 1) h13).trans h14)).cell; obtain ⟨t0, t1, t2, t3, t4, t5, t6⟩ := (BX.out.keep ((Ext.trans ((Ext.refl _).drewN 1) h13).trans h14)).cell; simp only at s0 s1 s2 s3 s4 s5 s6 t0 t1 t2 t3 t4 t5 t6))
  have hX : Ext w12 w14 := ((Ext.trans ((Ext.refl _).drewN 1) h13).trans h14)
  have E := Lib.hid (E.out.trans hX)
  have BA := Lib.hid (BA.out.keep hX)
  have OW := Lib.hid (OW.out.keep hX)
  have IW := Lib.hid (own_keep IW.out hX)
  have BW := Lib.hid (BW.out.keep hX)
  have Ox := Lib.hid (Ox.out.keep hX)
  have BX := Lib.hid (BX.out.keep hX)
  have Lx := Lib.hid (own_keep Lx.out hX)
  have OG := Lib.hid (OG.out.keep hX)
  have IG := Lib.hid (own_keep IG.out hX)
  have BG := Lib.hid (BG.out.keep hX)
  have z14 : w12.heap.size ≤ w14.heap.size := hX.size
  clear hX h13 h14 o13
  clear b0 b1 b2 b3 b4 b5 b6 y0 y1 y2 y3 y4 y5 y6 s0 s1 s2 s3 s4 s5 s6 t0 t1 t2 t3 t4 t5 t6
  go_wp2_with (go_at_call 52; refine (fun h : Hid _ => h.out) ?_)
  unfold Hid
  refine (laws_toActS A5 n5 c5 xs w14 (HA.out.keep E.out) hn5').mono ?_
  rintro e w15 ⟨za, rfl, h15, o15⟩
  have E := Lib.hid (E.out.trans h15)
  have BA := Lib.hid (BA.out.keep h15)
  have OW := Lib.hid (OW.out.keep h15)
  have IW := Lib.hid (own_keep IW.out h15)
  have BW := Lib.hid (BW.out.keep h15)
  have Ox := Lib.hid (Ox.out.keep h15)
  have BX := Lib.hid (BX.out.keep h15)
  have Lx := Lib.hid (own_keep Lx.out h15)
  have OG := Lib.hid (OG.out.keep h15)
  have IG := Lib.hid (own_keep IG.out h15)
  have BG := Lib.hid (BG.out.keep h15)
  have Lz := Lib.hid o15
  have z15 : w14.heap.size ≤ w15.heap.size := h15.size
  clear h15 o15
  go_wp2_with (go_at_call 54; refine (fun h : Hid _ => h.out) ?_)
  unfold Hid
  refine (laws_eqActS _ _ _ _ _ _ xs w15 (Rd.of_own Lx.out) (Rd.of_own Lz.out)).mono ?_
  rintro e w16 ⟨rfl, h16⟩
  have E := Lib.hid (E.out.trans h16)
  have BA := Lib.hid (BA.out.keep h16)
  have OW := Lib.hid (OW.out.keep h16)
  have IW := Lib.hid (own_keep IW.out h16)
  have BW := Lib.hid (BW.out.keep h16)
  have Ox := Lib.hid (Ox.out.keep h16)
  have BX := Lib.hid (BX.out.keep h16)
  have Lx := Lib.hid (own_keep Lx.out h16)
  have OG := Lib.hid (OG.out.keep h16)
  have IG := Lib.hid (own_keep IG.out h16)
  have BG := Lib.hid (BG.out.keep h16)
  have Lz := Lib.hid (own_keep Lz.out h16)
  have z16 : w15.heap.size ≤ w16.heap.size := h16.size
  clear h16
  clear Lz
  have fitx := Lib.hid (MFit.of_own Ox.out d0 d1 d2 d3 d4)
  obtain ⟨b0, b1, b2, b3, b4, b5, b6⟩ := BX.out.cell
  simp only at b0 b1 b2 b3 b4 b5 b6
  go_wp2_with (go_at_call 30; refine (fun h : Hid _ => h.out) ?_)
  unfold Hid
  obtain ⟨kx, hkx⟩ : ∃ z, z = markEnd 1 (⟨Hh, ⟨(some ⟨xd, 0, none⟩), n0, n0⟩, ⟨(some ⟨xf, 0, none⟩), n1, n1⟩, ⟨(some ⟨xp, 0, none⟩), n2, n2⟩, ⟨(some ⟨xg, 0, none⟩), n3, n3⟩, day, ⟨(some ⟨xr, 0, none⟩), n4, n4⟩⟩ : MV) := ⟨_, rfl⟩
  have nkx : 0 ≤ kx ∧ kx ≤ 100000000 := by rw [hkx]; exact markEnd_le fitx.out
  refine (laws_markMuseum (⟨Hh, ⟨(some ⟨xd, 0, none⟩), n0, n0⟩, ⟨(some ⟨xf, 0, none⟩), n1, n1⟩, ⟨(some ⟨xp, 0, none⟩), n2, n2⟩, ⟨(some ⟨xg, 0, none⟩), n3, n3⟩, day, ⟨(some ⟨xr, 0, none⟩), n4, n4⟩⟩ : MV) (m) 1 w5.heap.size w6.heap.size w16 Ox.out Mx.out fitx.out (by omega) (by omega) (by omega)).mono ?_
  rintro e w17 ⟨he, o17, k17⟩
  rw [← hkx] at he
  subst he
  have E := Lib.hid (k17.ext E.out (by omega))
  have z17 : w16.heap.size ≤ w17.heap.size := k17.size
  clear b0 b1 b2 b3 b4 b5 b6
  have BA := Lib.hid (BA.out.out k17 (.inl (by omega)))
  have BW := Lib.hid (BW.out.out k17 (.inl (by omega)))
  have OW := Lib.hid (OW.out.below k17 (MW.out.mono (Nat.le_refl _) (by omega)))
  have IW := Lib.hid (k17.own IW.out (fun g hg => .inl (by have := (TW.out g (by rw [← HLL.out]; exact hg)).2; omega)))
  have Lx := Lib.hid (k17.own Lx.out (fun g hg => .inr (by have := (Tx.out g hg).1; omega)))
  have OG := Lib.hid (OG.out.out k17 (by omega))
  have IG := Lib.hid (k17.own IG.out (fun g hg => .inr (by have := (TG.out g hg).1; omega)))
  have BG := Lib.hid (BG.out.out k17 (.inr (by omega)))
  clear k17 o17 BX Ox hkx
  go_wp2_with (go_at_call 62; refine (fun h : Hid _ => h.out) ?_)
  unfold Hid
  refine (laws_markActS _ _ _ kx _ _ w17 Lx.out hn5' (by omega) (by omega)).mono ?_
  rintro e w18 ⟨rfl, o18, g18⟩
  have k18 := KeptOut.of_at g18 Tx.out
  have E := Lib.hid (k18.ext E.out (by omega))
  have z18 : w17.heap.size ≤ w18.heap.size := g18.size
  have BA := Lib.hid (BA.out.out k18 (.inl (by omega)))
  have BW := Lib.hid (BW.out.out k18 (.inl (by omega)))
  have OW := Lib.hid (OW.out.below k18 (MW.out.mono (Nat.le_refl _) (by omega)))
  have IW := Lib.hid (k18.own IW.out (fun g hg => .inl (by have := (TW.out g (by rw [← HLL.out]; exact hg)).2; omega)))
  have OG := Lib.hid (OG.out.out k18 (by omega))
  have IG := Lib.hid (k18.own IG.out (fun g hg => .inr (by have := (TG.out g hg).1; omega)))
  have BG := Lib.hid (BG.out.out k18 (.inr (by omega)))
  have nk2 : ¬ (kx + (n5 : Int) * 5 < 0) := by omega
  clear k18 o18 g18 Lx
  obtain ⟨b0, b1, b2, b3, b4, b5, b6⟩ := BG.out.cell
  simp only at b0 b1 b2 b3 b4 b5 b6
  obtain ⟨y0, y1, y2, y3, y4, y5, y6⟩ := BW.out.cell
  simp only at y0 y1 y2 y3 y4 y5 y6
  go_wp2_with (go_at_call 29; refine (fun h : Hid _ => h.out) ?_)
  unfold Hid
  refine (laws_eqMuseum (⟨HG, ⟨AG0, nG0, kG0⟩, ⟨AG1, nG1, kG1⟩, ⟨AG2, nG2, kG2⟩, ⟨AG3, nG3, kG3⟩, dG, ⟨AG4, nG4, kG4⟩⟩ : MV) (⟨HW, ⟨AW0, nW0, kW0⟩, ⟨AW1, nW1, kW1⟩, ⟨AW2, nW2, kW2⟩, ⟨AW3, nW3, kW3⟩, dW, ⟨AW4, nW4, kW4⟩⟩ : MV) (runM m xs) w18 OG.out.rd OW.out.rd).mono ?_
  rintro e w19 ⟨rfl, h19⟩
  have E := Lib.hid (E.out.trans h19)
  have BA := Lib.hid (BA.out.keep h19)
  have BW := Lib.hid (BW.out.keep h19)
  have OW := Lib.hid (OW.out.keep h19)
  have IW := Lib.hid (own_keep IW.out h19)
  have OG := Lib.hid (OG.out.keep h19)
  have IG := Lib.hid (own_keep IG.out h19)
  have BG := Lib.hid (BG.out.keep h19)
  have z19 : w18.heap.size ≤ w19.heap.size := h19.size
  clear h19
  clear b0 b1 b2 b3 b4 b5 b6 y0 y1 y2 y3 y4 y5 y6
  go_wp2_with (go_at_call 55; refine (fun h : Hid _ => h.out) ?_)
  unfold Hid
  refine (laws_eqIntS _ _ _ _ _ _ (runL m xs) w19 (Rd.of_own IG.out) (Rd.of_own IW.out)).mono ?_
  rintro e w20 ⟨rfl, h20⟩
  have E := Lib.hid (E.out.trans h20)
  have BA := Lib.hid (BA.out.keep h20)
  have BW := Lib.hid (BW.out.keep h20)
  have OW := Lib.hid (OW.out.keep h20)
  have IW := Lib.hid (own_keep IW.out h20)
  have OG := Lib.hid (OG.out.keep h20)
  have IG := Lib.hid (own_keep IG.out h20)
  have BG := Lib.hid (BG.out.keep h20)
  have z20 : w19.heap.size ≤ w20.heap.size := h20.size
  clear h20
  obtain ⟨b0, b1, b2, b3, b4, b5, b6⟩ := BG.out.cell
  simp only at b0 b1 b2 b3 b4 b5 b6
  go_wp2_with (go_at_call 30; refine (fun h : Hid _ => h.out) ?_)
  unfold Hid
  obtain ⟨kg, hkg⟩ : ∃ z, z = markEnd 1 (⟨HG, ⟨AG0, nG0, kG0⟩, ⟨AG1, nG1, kG1⟩, ⟨AG2, nG2, kG2⟩, ⟨AG3, nG3, kG3⟩, dG, ⟨AG4, nG4, kG4⟩⟩ : MV) := ⟨_, rfl⟩
  have nkg : 0 ≤ kg ∧ kg ≤ 100000000 := by rw [hkg]; exact markEnd_le FG.out
  refine (laws_markMuseum (⟨HG, ⟨AG0, nG0, kG0⟩, ⟨AG1, nG1, kG1⟩, ⟨AG2, nG2, kG2⟩, ⟨AG3, nG3, kG3⟩, dG, ⟨AG4, nG4, kG4⟩⟩ : MV) (runM m xs) 1 loG hiG w20 OG.out MG.out FG.out (by omega) (by omega) (by omega)).mono ?_
  rintro e w21 ⟨he, o21, k21⟩
  rw [← hkg] at he
  subst he
  have E := Lib.hid (k21.ext E.out (by omega))
  have z21 : w20.heap.size ≤ w21.heap.size := k21.size
  clear b0 b1 b2 b3 b4 b5 b6
  have BA := Lib.hid (BA.out.out k21 (.inl (by omega)))
  have BW := Lib.hid (BW.out.out k21 (.inl (by omega)))
  have OW := Lib.hid (OW.out.below k21 (MW.out.mono (Nat.le_refl _) (by omega)))
  have IW := Lib.hid (k21.own IW.out (fun g hg => .inl (by have := (TW.out g (by rw [← HLL.out]; exact hg)).2; omega)))
  have IG := Lib.hid (k21.own IG.out QG.out)
  have BG := Lib.hid (BG.out.out k21 (.inr (by omega)))
  have OM := Lib.hid o21
  have HKG := Lib.hid hkg
  clear k21 o21 OG hkg
  go_wp2_with (go_at_call 63; refine (fun h : Hid _ => h.out) ?_)
  unfold Hid
  refine (laws_markIntS _ _ _ kg _ _ w21 IG.out (by omega) (by omega) (by omega)).mono ?_
  rintro e w22 ⟨rfl, o22, g22⟩
  have k22 := KeptOut.of_at g22 TG.out
  have E := Lib.hid (k22.ext E.out (by omega))
  have z22 : w21.heap.size ≤ w22.heap.size := g22.size
  have BA := Lib.hid (BA.out.out k22 (.inl (by omega)))
  have BW := Lib.hid (BW.out.out k22 (.inl (by omega)))
  have OW := Lib.hid (OW.out.below k22 (MW.out.mono (Nat.le_refl _) (by omega)))
  have IW := Lib.hid (k22.own IW.out (fun g hg => .inl (by have := (TW.out g (by rw [← HLL.out]; exact hg)).2; omega)))
  have BG := Lib.hid (BG.out.out k22 (.inr (by omega)))
  have OM := Lib.hid (OM.out.grown PG.out g22)
  have IM := Lib.hid o22
  clear k22 o22 g22 IG
  have nk3 : ¬ kg < 0 := by omega
  have nk4 : ¬ (kg + (LL : Int) * 1 < 0) := by omega
  obtain ⟨b0, b1, b2, b3, b4, b5, b6⟩ := BG.out.cell
  simp only at b0 b1 b2 b3 b4 b5 b6
  go_wp2_with (go_at_call 31; refine (fun h : Hid _ => h.out) ?_)
  unfold Hid
  refine (laws_heldMuseum (⟨HG, ⟨AG0, nG0, kG0⟩, ⟨AG1, nG1, kG1⟩, ⟨AG2, nG2, kG2⟩, ⟨AG3, nG3, kG3⟩, dG, ⟨AG4, nG4, kG4⟩⟩ : MV) (runM m xs) 1 w22 OM.out.rd FG.out (by omega) (by omega)).mono ?_
  rintro e w23 ⟨he, h23⟩
  rw [← HKG.out] at he
  subst he
  have E := Lib.hid (E.out.trans h23)
  have BA := Lib.hid (BA.out.keep h23)
  have BW := Lib.hid (BW.out.keep h23)
  have OW := Lib.hid (OW.out.keep h23)
  have IW := Lib.hid (own_keep IW.out h23)
  have BG := Lib.hid (BG.out.keep h23)
  have OM := Lib.hid (OM.out.keep h23)
  have IM := Lib.hid (own_keep IM.out h23)
  have z23 : w22.heap.size ≤ w23.heap.size := h23.size
  clear h23
  clear b0 b1 b2 b3 b4 b5 b6
  go_wp2_with (go_at_call 64; refine (fun h : Hid _ => h.out) ?_)
  unfold Hid
  refine (laws_heldIntS _ _ _ kg w23 (Rd.of_own IM.out) (by omega) (by omega) (by omega)).mono ?_
  rintro e w24 ⟨rfl, h24⟩
  have E := Lib.hid (E.out.trans h24)
  have BA := Lib.hid (BA.out.keep h24)
  have BW := Lib.hid (BW.out.keep h24)
  have OW := Lib.hid (OW.out.keep h24)
  have IW := Lib.hid (own_keep IW.out h24)
  have BG := Lib.hid (BG.out.keep h24)
  have OM := Lib.hid (OM.out.keep h24)
  have IM := Lib.hid (own_keep IM.out h24)
  have z24 : w23.heap.size ≤ w24.heap.size := h24.size
  clear h24
  obtain ⟨b0, b1, b2, b3, b4, b5, b6⟩ := BA.out.cell
  simp only at b0 b1 b2 b3 b4 b5 b6
  go_wp2_with (go_at_call 26; refine (fun h : Hid _ => h.out) ?_)
  unfold Hid
  refine (cT.out _ E.out d0 d1 d2 d3 d4).mono ?_
  rintro e w25 ⟨pd, pf, pp, pg, pr, he, h25, o25⟩
  simp only [MV.val, MV.cells] at he
  subst he
  have E := Lib.hid (E.out.trans h25)
  have BA := Lib.hid (BA.out.keep h25)
  have BW := Lib.hid (BW.out.keep h25)
  have OW := Lib.hid (OW.out.keep h25)
  have IW := Lib.hid (own_keep IW.out h25)
  have BG := Lib.hid (BG.out.keep h25)
  have OM := Lib.hid (OM.out.keep h25)
  have IM := Lib.hid (own_keep IM.out h25)
  have Op := Lib.hid o25
  have Mp := Lib.hid (MAt.of_own o25)
  have z25 : w24.heap.size ≤ w25.heap.size := h25.size
  clear h25 o25
  clear b0 b1 b2 b3 b4 b5 b6
  go_wp2_with (go_at_call 52; refine (fun h : Hid _ => h.out) ?_)
  unfold Hid
  refine (laws_toActS A5 n5 c5 xs w25 (HA.out.keep E.out) hn5').mono ?_
  rintro e w26 ⟨pa, rfl, h26, o26⟩
  have E := Lib.hid (E.out.trans h26)
  have BA := Lib.hid (BA.out.keep h26)
  have BW := Lib.hid (BW.out.keep h26)
  have OW := Lib.hid (OW.out.keep h26)
  have IW := Lib.hid (own_keep IW.out h26)
  have BG := Lib.hid (BG.out.keep h26)
  have OM := Lib.hid (OM.out.keep h26)
  have IM := Lib.hid (own_keep IM.out h26)
  have Op := Lib.hid (Op.out.keep h26)
  have Lp := Lib.hid o26
  have z26 : w25.heap.size ≤ w26.heap.size := h26.size
  clear h26 o26
  go_wp2_with (go_at_call 41; refine (fun h : Hid _ => h.out) ?_)
  unfold Hid
  refine (cI.out (⟨Hh, ⟨(some ⟨pd, 0, none⟩), n0, n0⟩, ⟨(some ⟨pf, 0, none⟩), n1, n1⟩, ⟨(some ⟨pp, 0, none⟩), n2, n2⟩, ⟨(some ⟨pg, 0, none⟩), n3, n3⟩, day, ⟨(some ⟨pr, 0, none⟩), n4, n4⟩⟩ : MV) _ _ w26 E.out Op.out.rd (MFit.of_own Op.out d0 d1 d2 d3 d4) (Rd.of_own Lp.out)).mono ?_
  rintro e w27 ⟨vU, lU, hev, h27, o27, i27, a27, r27⟩
  obtain ⟨HU, ⟨AU0, nU0, kU0⟩, ⟨AU1, nU1, kU1⟩, ⟨AU2, nU2, kU2⟩, ⟨AU3, nU3, kU3⟩, dU, ⟨AU4, nU4, kU4⟩⟩ := vU
  simp only [MV.val, MV.cells] at hev
  subst hev
  obtain ⟨AlU, clU, rfl, -⟩ := own_form i27
  obtain ⟨loU, hiU, qU1, qU2, qU3, qU4⟩ := r27
  have E := Lib.hid (E.out.trans h27)
  have BA := Lib.hid (BA.out.keep h27)
  have BW := Lib.hid (BW.out.keep h27)
  have OW := Lib.hid (OW.out.keep h27)
  have IW := Lib.hid (own_keep IW.out h27)
  have BG := Lib.hid (BG.out.keep h27)
  have OM := Lib.hid (OM.out.keep h27)
  have IM := Lib.hid (own_keep IM.out h27)
  have Op := Lib.hid (Op.out.keep h27)
  have Lp := Lib.hid (own_keep Lp.out h27)
  have FU := Lib.hid (run_fit o27 HX.out d0 d1 d2 d3 d4)
  have OU := Lib.hid (o27.base qU3)
  have MU := Lib.hid qU3
  have IU := Lib.hid i27
  have PU := Lib.hid a27
  have QU := Lib.hid qU4
  have TU := Lib.hid (At.of_own i27)
  have z27 : w26.heap.size ≤ w27.heap.size := h27.size
  clear h27 o27 i27 a27 qU3 qU4
  clear Op Lp
  clear Mp
  have IU := Lib.hid (show World.ownsRow _ _ _ _ (.slice AlU LL clU) LL _ from by rw [HLL.out]; exact IU.out)
  rw [← HLL.out]
  obtain ⟨w28, hw28⟩ : ∃ w28, w28 = w27.alloc (.cells #[.int .i64 HU, .slice AU0 nU0 kU0, .slice AU1 nU1 kU1, .slice AU2 nU2 kU2, .slice AU3 nU3 kU3, .int .i64 dU, .slice AU4 nU4 kU4] 30) := ⟨_, rfl⟩
  have BU := Lib.hid (MBox.new (v := (⟨HU, ⟨AU0, nU0, kU0⟩, ⟨AU1, nU1, kU1⟩, ⟨AU2, nU2, kU2⟩, ⟨AU3, nU3, kU3⟩, dU, ⟨AU4, nU4, kU4⟩⟩ : MV)) hw28)
  have hk28 : Ext w27 w28 := by rw [hw28]; exact (Ext.refl _).alloc _
  have E := Lib.hid (E.out.trans hk28)
  have BA := Lib.hid (BA.out.keep hk28)
  have BW := Lib.hid (BW.out.keep hk28)
  have OW := Lib.hid (OW.out.keep hk28)
  have IW := Lib.hid (own_keep IW.out hk28)
  have BG := Lib.hid (BG.out.keep hk28)
  have OM := Lib.hid (OM.out.keep hk28)
  have IM := Lib.hid (own_keep IM.out hk28)
  have OU := Lib.hid (OU.out.keep hk28)
  have IU := Lib.hid (own_keep IU.out hk28)
  have HW28 := Lib.hid hw28
  have z28 : w27.heap.size < w28.heap.size := BU.out.lt
  clear hk28 hw28
  obtain ⟨b0, b1, b2, b3, b4, b5, b6⟩ := BU.out.cell
  simp only at b0 b1 b2 b3 b4 b5 b6
  obtain ⟨y0, y1, y2, y3, y4, y5, y6⟩ := BW.out.cell
  simp only at y0 y1 y2 y3 y4 y5 y6
  rw [HW28.out] at b0 b1 b2 b3 b4 b5 b6 y0 y1 y2 y3 y4 y5 y6
  go_wp2_with (go_at_call 29; refine (fun h : Hid _ => h.out) ?_)
  unfold Hid
  rw [← HW28.out]
  refine (laws_eqMuseum (⟨HU, ⟨AU0, nU0, kU0⟩, ⟨AU1, nU1, kU1⟩, ⟨AU2, nU2, kU2⟩, ⟨AU3, nU3, kU3⟩, dU, ⟨AU4, nU4, kU4⟩⟩ : MV) (⟨HW, ⟨AW0, nW0, kW0⟩, ⟨AW1, nW1, kW1⟩, ⟨AW2, nW2, kW2⟩, ⟨AW3, nW3, kW3⟩, dW, ⟨AW4, nW4, kW4⟩⟩ : MV) (runM m xs) w28 OU.out.rd OW.out.rd).mono ?_
  rintro e w29 ⟨rfl, h29⟩
  have E := Lib.hid (E.out.trans h29)
  have BA := Lib.hid (BA.out.keep h29)
  have BW := Lib.hid (BW.out.keep h29)
  have OW := Lib.hid (OW.out.keep h29)
  have IW := Lib.hid (own_keep IW.out h29)
  have BG := Lib.hid (BG.out.keep h29)
  have OM := Lib.hid (OM.out.keep h29)
  have IM := Lib.hid (own_keep IM.out h29)
  have OU := Lib.hid (OU.out.keep h29)
  have IU := Lib.hid (own_keep IU.out h29)
  have BU := Lib.hid (BU.out.keep h29)
  have z29 : w28.heap.size ≤ w29.heap.size := h29.size
  clear h29
  clear b0 b1 b2 b3 b4 b5 b6 y0 y1 y2 y3 y4 y5 y6
  go_wp2_with (go_at_call 55; refine (fun h : Hid _ => h.out) ?_)
  unfold Hid
  refine (laws_eqIntS _ _ _ _ _ _ (runL m xs) w29 (Rd.of_own IU.out) (Rd.of_own IW.out)).mono ?_
  rintro e w30 ⟨rfl, h30⟩
  have E := Lib.hid (E.out.trans h30)
  have BA := Lib.hid (BA.out.keep h30)
  have BW := Lib.hid (BW.out.keep h30)
  have OW := Lib.hid (OW.out.keep h30)
  have IW := Lib.hid (own_keep IW.out h30)
  have BG := Lib.hid (BG.out.keep h30)
  have OM := Lib.hid (OM.out.keep h30)
  have IM := Lib.hid (own_keep IM.out h30)
  have OU := Lib.hid (OU.out.keep h30)
  have IU := Lib.hid (own_keep IU.out h30)
  have BU := Lib.hid (BU.out.keep h30)
  have z30 : w29.heap.size ≤ w30.heap.size := h30.size
  clear h30
  obtain ⟨b0, b1, b2, b3, b4, b5, b6⟩ := BG.out.cell
  simp only at b0 b1 b2 b3 b4 b5 b6
  go_wp2_with (go_at_call 31; refine (fun h : Hid _ => h.out) ?_)
  unfold Hid
  refine (laws_heldMuseum (⟨HG, ⟨AG0, nG0, kG0⟩, ⟨AG1, nG1, kG1⟩, ⟨AG2, nG2, kG2⟩, ⟨AG3, nG3, kG3⟩, dG, ⟨AG4, nG4, kG4⟩⟩ : MV) (runM m xs) 1 w30 OM.out.rd FG.out (by omega) (by omega)).mono ?_
  rintro e w31 ⟨he, h31⟩
  rw [← HKG.out] at he
  subst he
  have E := Lib.hid (E.out.trans h31)
  have BA := Lib.hid (BA.out.keep h31)
  have BW := Lib.hid (BW.out.keep h31)
  have OW := Lib.hid (OW.out.keep h31)
  have IW := Lib.hid (own_keep IW.out h31)
  have BG := Lib.hid (BG.out.keep h31)
  have OM := Lib.hid (OM.out.keep h31)
  have IM := Lib.hid (own_keep IM.out h31)
  have OU := Lib.hid (OU.out.keep h31)
  have IU := Lib.hid (own_keep IU.out h31)
  have BU := Lib.hid (BU.out.keep h31)
  have z31 : w30.heap.size ≤ w31.heap.size := h31.size
  clear h31
  clear b0 b1 b2 b3 b4 b5 b6
  go_wp2_with (go_at_call 64; refine (fun h : Hid _ => h.out) ?_)
  unfold Hid
  refine (laws_heldIntS _ _ _ kg w31 (Rd.of_own IM.out) (by omega) (by omega) (by omega)).mono ?_
  rintro e w32 ⟨rfl, h32⟩
  have E := Lib.hid (E.out.trans h32)
  have BA := Lib.hid (BA.out.keep h32)
  have BW := Lib.hid (BW.out.keep h32)
  have OW := Lib.hid (OW.out.keep h32)
  have IW := Lib.hid (own_keep IW.out h32)
  have BG := Lib.hid (BG.out.keep h32)
  have OM := Lib.hid (OM.out.keep h32)
  have IM := Lib.hid (own_keep IM.out h32)
  have OU := Lib.hid (OU.out.keep h32)
  have IU := Lib.hid (own_keep IU.out h32)
  have BU := Lib.hid (BU.out.keep h32)
  have z32 : w31.heap.size ≤ w32.heap.size := h32.size
  clear h32
  go_wp2_with fail
  go_ret
  exact ⟨rfl, HE.out.trans E.out⟩
end Go.Proofs.YtkelmeemblmggaaGreatDoor
