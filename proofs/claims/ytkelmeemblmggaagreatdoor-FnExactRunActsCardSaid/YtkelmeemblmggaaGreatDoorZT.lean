/- Texts of one proof, laid one behind the other (SP5, LS, NM6); no condition but what stands at each theorem. -/
import Derived.Test.YtkelmeemblmggaaGreatDoorZC
import Derived.Test.YtkelmeemblmggaaGreatDoorZG
import Derived.Test.YtkelmeemblmggaaGreatDoorZS
/- AuditMuseum and FirstFraud of the reference, FirstFraud of both sides; no condition but what stands at each theorem. -/
namespace Go.Proofs.YtkelmeemblmggaaGreatDoor
set_option linter.unusedSimpArgs false
set_option linter.unusedVariables false
open Go.RowKit Go.Sort
set_option maxRecDepth 100000 in
set_option maxHeartbeats 2000000 in
theorem spec_AuditMuseum (v : MV) (m : GMuseum) (w : World) (hx : MRd w v m) (hf : MFit v) :
    Calls Tryz.prog 32 #[v.val] w fun e w' => e = .returned (.bool (auditB m)) ∧ Ext w w' := by
  obtain ⟨wb, hwb⟩ : ∃ wb, wb = w.alloc (.cells v.cells 30) := ⟨_, rfl⟩
  have hbx := MBox.new hwb
  have hE : Ext w wb := by rw [hwb]; exact (Ext.refl w).alloc _
  have HX := Lib.hid (hx.keep hE)
  have cM := Lib.hid (spec_MuseumOk v m wb HX.out)
  obtain ⟨Hh, ⟨A0, n0, c0⟩, ⟨A1, n1, c1⟩, ⟨A2, n2, c2⟩, ⟨A3, n3, c3⟩, day, ⟨A4, n4, c4⟩⟩ := v
  have hxd : Hid (Rd wb 2 A0 n0 (m.ds.flatMap GDoor.enc)) := HX.out.rd
  have hxf : Hid (Rd wb 1 A1 n1 (m.fs.flatMap ienc)) := HX.out.rf
  have hxp : Hid (Rd wb 1 A2 n2 (m.ps.flatMap ienc)) := HX.out.rp
  have hxr : Hid (Rd wb 3 A4 n4 (m.rs.flatMap GEntry.enc)) := HX.out.rr
  have hzf : Hid (A1 = none → c1 = 0) := hf.zf
  have hnf : n1 ≤ 1048576 := hf.nf
  have hnr : n4 ≤ 1048576 := hf.nr
  have hnp : n2 ≤ 1048576 := hf.np
  have hl1 := Lib.hid (hxf.out.len ienc_len (by omega))
  have hl2 := Lib.hid (hxp.out.len ienc_len (by omega))
  have hl4 := Lib.hid (hxr.out.len GEntry.len (by omega))
  have hH : Hid (Hh = m.H) := hx.eH
  have HE := Lib.hid hE
  have Hwb : Hid (wb = w.alloc (.cells #[.int .i64 Hh, .slice A0 n0 c0, .slice A1 n1 c1, .slice A2 n2 c2, .slice A3 n3 c3, .int .i64 day, .slice A4 n4 c4] 30)) := hwb
  have HB := Lib.hid hbx
  have hbl := hbx.lt
  clear hE hwb hbx hx hf
  show Calls Tryz.prog 32 #[.agg #[.int .i64 Hh, .slice A0 n0 c0, .slice A1 n1 c1, .slice A2 n2 c2, .slice A3 n3 c3, .int .i64 day, .slice A4 n4 c4]] w _
  obtain ⟨b0, b1, b2, b3, b4, b5, b6⟩ := HB.out.cell
  simp only at b0 b1 b2 b3 b4 b5 b6
  cases hm : museumB m
  case false =>
    rw [hm] at cM
    have HF := Lib.hid (audit_bad hm)
    clear hm
    go_enter Tryz.func32, Tryz.ntmps32
    go_wp2_with (go_at_call 71; refine (fun h : Hid _ => h.out) ?_)
    unfold Hid
    rw [← Hwb.out]
    refine cM.out.mono ?_
    rintro e w1 ⟨rfl, h1⟩
    have HE1 := Lib.hid (HE.out.trans h1)
    clear h1 b0 b1 b2 b3 b4 b5 b6
    go_wp2_with fail
    go_ret
    exact ⟨ret_bool HF.out.symm, HE1.out⟩
  rw [hm] at cM
  have hTx := Lib.hid (museum_txt hm)
  have Hm := Lib.hid hm
  have hpp := museumB_parts.1 hm
  have hn4 : n4 ≤ 30 := by (have := sealed_len hpp.2.2.2.2.2.2.1; have := hl4.out; omega)
  have H12 : Hid (n1 = n2) := Lib.hid (by (have := hpp.2.2.1; have := hl1.out; have := hl2.out; omega))
  clear hm hpp
  go_enter Tryz.func32, Tryz.ntmps32
  go_wp2_with (go_at_call 71; refine (fun h : Hid _ => h.out) ?_)
  unfold Hid
  rw [← Hwb.out]
  refine cM.out.mono ?_
  rintro e w1 ⟨rfl, h1⟩
  have HE1 := Lib.hid h1
  have z1 := h1.size
  clear h1 b0 b1 b2 b3 b4 b5 b6
  obtain ⟨b0, b1, b2, b3, b4, b5, b6⟩ := (HB.out.keep HE1.out).cell
  simp only at b0 b1 b2 b3 b4 b5 b6
  have Ho0 : Hid ((w1.alloc (.cells #[] 56)).ownsRow wb.heap.size 56 4 (.slice (some ⟨w1.heap.size, 0, none⟩) 0 0) 0 []) := Lib.hid (own_empty w1 wb.heap.size 56 4 z1)
  have HE2 := Lib.hid (HE1.out.alloc (.cells #[] 56))
  obtain ⟨y0, y1, y2, y3, y4, y5, y6⟩ := (HB.out.keep HE2.out).cell
  simp only at y0 y1 y2 y3 y4 y5 y6
  have hbl1 : w.heap.size < w1.heap.size := by omega
  go_wp2_with fail
  go_loopw [3, 4] (fun o i wr => ∃ k : Nat, k ≤ n4 ∧ i = .int .i64 k ∧ Hid (wr.ownsRow wb.heap.size 56 4 o k ((movesL (m.rs.take k)).flatMap GMove.enc)) ∧ Hid (((m.rs.take k).all fun e => (parseM e.x).2) = true) ∧ Ext wb wr) (fun _ i _ => n4 - (intOf i).toNat)
  case atStart => exact ⟨0, Nat.zero_le _, rfl, Ho0, by unfold Hid; rfl, HE2.out⟩
  case round =>
    obtain ⟨k, hk, rfl, hown, hall, hb⟩ := hrel
    by_cases hlt : k < n4
    · obtain ⟨b, off, x, rfl, hbs, hxk, p0, p1, p2⟩ := GEntry.at_ (hxr.out.keep hb) hlt
      have hxs := hTx.out x (List.mem_of_getElem? hxk)
      have Hk := Lib.hid hxk
      obtain ⟨we, hwe⟩ : ∃ we, we = wr := ⟨_, rfl⟩
      have hEe : Ext wr we := by rw [hwe]; exact Ext.refl _
      have HBr := Lib.hid hb
      have HBe := Lib.hid (hb.trans hEe)
      have Hwe := Lib.hid hwe
      have cP := Lib.hid (spec_ParseMove x.x we (by omega))
      obtain ⟨b0, b1, b2, b3, b4, b5, b6⟩ := (HB.out.keep HBr.out).cell
      simp only at b0 b1 b2 b3 b4 b5 b6
      clear hxk hwe hb
      go_wp2_with (go_at_call 100; refine (fun h : Hid _ => h.out) ?_)
      unfold Hid
      rw [← Hwe.out]
      refine cP.out.mono ?_
      rintro e w2 ⟨mv, pb, rfl, he2, hpm⟩
      have hpe := parseM_of hpm
      have HE3 := Lib.hid (hEe.trans he2)
      clear hEe he2 hpm
      cases pb
      case false =>
        have HF := Lib.hid (audit_no Hk.out (by rw [hpe]))
        clear hpe p0 p1 p2 b0 b1 b2 b3 b4 b5 b6
        go_wp2_with fail
        go_ret
        exact ⟨ret_bool HF.out.symm, (HE.out.trans (HBr.out.trans HE3.out)).alloc _⟩
      case true =>
        have HN : Hid (movesL (m.rs.take (k + 1)) = movesL (m.rs.take k) ++ [mv]) := Lib.hid (by rw [movesL_snoc Hk.out, hpe])
        have HA := Lib.hid (all_snocA Hk.out hall.out (by rw [hpe]))
        clear hpe p0 p1 p2 b0 b1 b2 b3 b4 b5 b6
        go_wp2_with (at_builtin; refine (fun h : Hid _ => h.out) ?_)
        unfold Hid
        refine append1 ei_MoveA rfl _ _ rfl wb.heap.size (w2.alloc (.cells #[.int .i64 mv.o, .int .i64 mv.t, .int .i64 mv.f, .int .i64 mv.s] 56)) _ _ k _ (by rfl) (own_keep hown.out (HE3.out.alloc _)) mv.enc (by rw [heap_size_allocN]; rfl) rfl (one_GMoveA mv) (by omega) ((HBr.out.trans (HE3.out.alloc _)).size) ?_
        intro v' w4 ho4 he4
        have HO4 := Lib.hid ho4
        have HE4 := Lib.hid (he4 wb (HBr.out.trans (HE3.out.alloc _)) (Nat.le_refl _))
        clear ho4 he4
        go_wp2_with fail
        go_roundw
        case rel => exact ⟨k + 1, by omega, by go_num, by unfold Hid; rw [HN.out, List.flatMap_append]; simpa using HO4.out, HA, HE4.out⟩
        case measure => simp [intOf]; omega
    · obtain rfl : n4 = k := by omega
      rw [List.take_of_length_le (by rw [hl4.out]; omega)] at hown hall
      have HIS := Lib.hid (audit_is Hm.out hall.out)
      have HBr := Lib.hid hb
      obtain ⟨P, hP⟩ : ∃ P, P = (replayL m.H m.ds m.fs (movesL m.rs)).1 := ⟨_, rfl⟩
      obtain ⟨rb, hrb⟩ : ∃ rb, rb = (replayL m.H m.ds m.fs (movesL m.rs)).2 := ⟨_, rfl⟩
      have hPl : P.length = n1 := by rw [hP, replayL_len]; exact hl1.out
      rw [← hP, ← hrb] at HIS
      obtain ⟨Am, cm, rfl, -⟩ := own_form hown.out
      have cR : Hid (Calls Tryz.prog 101 #[.agg #[.int .i64 Hh, .slice A0 n0 c0], .slice A1 n1 c1, .slice Am n4 cm] wr (ListBool P rb wr)) := Lib.hid (by
        rw [hP, hrb, ← hH.out]
        exact spec_ReplayMoves Hh A0 n0 c0 m.ds A1 n1 c1 m.fs Am n4 cm (movesL m.rs) wr (hxd.out.keep hb) (hxf.out.keep hb) (Rd.of_own hown.out) hzf hnf)
      have HPl := Lib.hid hPl
      clear hb hP hrb hPl b0 b1 b2 b3 b4 b5 b6
      obtain ⟨b0, b1, b2, b3, b4, b5, b6⟩ := (HB.out.keep HBr.out).cell
      simp only at b0 b1 b2 b3 b4 b5 b6
      go_wp2_with (go_at_call 101; refine (fun h : Hid _ => h.out) ?_)
      unfold Hid
      refine cR.out.mono ?_
      rintro e w5 ⟨vp, rfl, he5, ho5⟩
      obtain ⟨Ap, cp, rfl, -⟩ := own_form ho5
      have hrp := Rd.of_own ho5
      rw [HPl.out] at hrp
      have HRP := Lib.hid hrp
      have HE5 := Lib.hid (HBr.out.trans he5)
      clear he5 ho5 hrp hown b0 b1 b2 b3 b4 b5 b6
      rw [HPl.out]
      obtain ⟨b0, b1, b2, b3, b4, b5, b6⟩ := (HB.out.keep HE5.out).cell
      simp only at b0 b1 b2 b3 b4 b5 b6
      cases rb
      case false =>
        go_wp2_with fail
        go_ret
        exact ⟨ret_bool (by rw [HIS.out]; rfl), HE.out.trans HE5.out⟩
      have H12i : ((n1 : Int) == (n2 : Int)) = true := by rw [H12.out]; simp
      go_wp2_with fail
      go_loopw [9] (fun i wr => ∃ (k : Nat), k ≤ n1 ∧ i = .int .i64 k ∧ Hid (P.take k = m.ps.take k) ∧ Ext w5 wr) (fun i _ => n1 - (intOf i).toNat)
      case atStart => exact ⟨0, Nat.zero_le _, rfl, by unfold Hid; simp, Ext.refl _⟩
      case round =>
        obtain ⟨k, hk, rfl, htk, hb⟩ := hrel
        clear b0 b1 b2 b3 b4 b5 b6
        by_cases hlt : k < n1
        · obtain ⟨bp, op, x, hAp, hbp, hpk, q0⟩ := ienc_at (HRP.out.keep hb) hlt
          obtain ⟨bq, oq, y, hAq, hbq, hqk, r0⟩ := ienc_at (hxp.out.keep (HE5.out.trans hb)) (show k < n2 by (have := H12.out; omega))
          subst hAp hAq
          have HP1 := Lib.hid hpk
          have HQ1 := Lib.hid hqk
          have HW5 := Lib.hid (HE5.out.trans hb)
          obtain ⟨b0, b1, b2, b3, b4, b5, b6⟩ := (HB.out.keep HW5.out).cell
          simp only at b0 b1 b2 b3 b4 b5 b6
          have HBB := Lib.hid hb
          clear hpk hqk hb
          have i1 : (k : Int) < (n2 : Int) := by (have := H12.out; omega)
          by_cases hxy : x = y
          · have hne : (x == y) = true := by simpa using hxy
            have HT : Hid (P.take (k + 1) = m.ps.take (k + 1)) := Lib.hid (by rw [take_snoc HP1.out, take_snoc HQ1.out, htk.out, hxy])
            clear hxy
            go_wp2_with fail
            go_quiet (fail)
            go_wp2_with fail
            go_roundw
            case rel => exact ⟨k + 1, by omega, by go_num, HT, HBB.out.drewN _⟩
            case measure => simp [intOf]; omega
          · have hne : (x == y) = false := by simpa using hxy
            have HF : Hid (auditB m = false) := Lib.hid (by
              rw [HIS.out, Bool.true_and, decide_eq_false_iff_not]
              intro h
              have h1 := HP1.out
              rw [h, HQ1.out] at h1
              injection h1 with h1
              exact hxy h1.symm)
            clear hxy
            go_wp2_with fail
            go_quiet (fail)
            go_wp2_with fail
            go_ret
            exact ⟨ret_bool HF.out.symm, HE.out.trans (HW5.out.drewN _)⟩
        · obtain rfl : n1 = k := by omega
          have hfin := htk.out
          rw [List.take_of_length_le (by rw [HPl.out]; omega), List.take_of_length_le (by rw [hl2.out]; have := H12.out; omega)] at hfin
          have HF : Hid (auditB m = true) := Lib.hid (by rw [HIS.out, hfin]; simp)
          clear hfin
          go_wp2_with fail
          go_ret
          exact ⟨ret_bool HF.out.symm, HE.out.trans (HE5.out.trans hb)⟩
set_option maxRecDepth 100000 in
set_option maxHeartbeats 1000000 in
theorem impl_FirstFraud (v : MV) (m : GMuseum) (w : World) (hx : MRd w v m) (hf : MFit v) (hM : Hid (∃ k, w.cell? ⟨0, 0, none⟩ = some (.int .i64 k))) :
    Calls Tryz.prog 22 #[v.val] w fun e w' => e = .returned (.int .i64 (fraudI m)) ∧ Ext w w' := by
  obtain ⟨wb, hwb⟩ : ∃ wb, wb = w.alloc (.cells v.cells 30) := ⟨_, rfl⟩
  have hbx := MBox.new hwb
  have hE : Ext w wb := by rw [hwb]; exact (Ext.refl w).alloc _
  have HX := Lib.hid (hx.keep hE)
  have cA := Lib.hid (impl_AuditMuseum v m wb HX.out hf (Lib.hid (max_ext hM.out hE)))
  obtain ⟨Hh, ⟨A0, n0, c0⟩, ⟨A1, n1, c1⟩, ⟨A2, n2, c2⟩, ⟨A3, n3, c3⟩, day, ⟨A4, n4, c4⟩⟩ := v
  have hxr : Hid (Rd wb 3 A4 n4 (m.rs.flatMap GEntry.enc)) := HX.out.rr
  have hl4 := Lib.hid (hxr.out.len GEntry.len (by omega))
  have HE := Lib.hid hE
  have Hwb : Hid (wb = w.alloc (.cells #[.int .i64 Hh, .slice A0 n0 c0, .slice A1 n1 c1, .slice A2 n2 c2, .slice A3 n3 c3, .int .i64 day, .slice A4 n4 c4] 30)) := hwb
  have HB := Lib.hid hbx
  have hbl := hbx.lt
  have HFr : Hid (fraudI m = if auditB m then -1 else if brokenI m.rs = -1 then (n4 : Int) else brokenI m.rs) := Lib.hid (by unfold fraudI; rw [hl4.out])
  have cK := Lib.hid (fun W (he : Ext wb W) => impl_FirstBroken A4 n4 c4 m.rs W (hxr.out.keep he))
  have hbd := brokF_bd m.rs 1 none 0
  obtain ⟨z, hz⟩ : ∃ z, z = brokenI m.rs := ⟨_, rfl⟩
  have hz1 : -1 ≤ z := by rw [hz]; exact hbd.1
  rw [← hz] at cK HFr
  obtain ⟨ab, hab⟩ : ∃ ab, ab = auditB m := ⟨_, rfl⟩
  rw [← hab] at cA HFr
  clear hE hwb hbx hx hf hz hab hbd
  show Calls Tryz.prog 22 #[.agg #[.int .i64 Hh, .slice A0 n0 c0, .slice A1 n1 c1, .slice A2 n2 c2, .slice A3 n3 c3, .int .i64 day, .slice A4 n4 c4]] w _
  obtain ⟨b0, b1, b2, b3, b4, b5, b6⟩ := HB.out.cell
  simp only at b0 b1 b2 b3 b4 b5 b6
  go_enter Tryz.func22, Tryz.ntmps22
  go_wp2_with (go_at_call 21; refine (fun h : Hid _ => h.out) ?_)
  unfold Hid
  rw [← Hwb.out]
  refine cA.out.mono ?_
  rintro e w1 ⟨rfl, h1⟩
  have HE1 := Lib.hid h1
  clear h1 b0 b1 b2 b3 b4 b5 b6
  cases ab
  case true =>
    go_wp2_with fail
    go_ret
    exact ⟨ret_int (by rw [HFr.out]; rfl), HE.out.trans HE1.out⟩
  obtain ⟨b0, b1, b2, b3, b4, b5, b6⟩ := (HB.out.keep HE1.out).cell
  simp only at b0 b1 b2 b3 b4 b5 b6
  go_wp2_with (go_at_call 82; refine (fun h : Hid _ => h.out) ?_)
  unfold Hid
  refine (cK.out w1 HE1.out).mono ?_
  rintro e w2 ⟨rfl, h2⟩
  have HE2 := Lib.hid (HE1.out.trans h2)
  clear h2 b0 b1 b2 b3 b4 b5 b6
  obtain ⟨b0, b1, b2, b3, b4, b5, b6⟩ := (HB.out.keep HE2.out).cell
  simp only at b0 b1 b2 b3 b4 b5 b6
  by_cases hz0 : z = -1
  case pos =>
    have HZ := Lib.hid hz0
    have e1 : (z == -1) = true := by simpa using hz0
    have e2 : ¬ 0 ≤ z := by omega
    clear hz0
    go_wp2_with fail
    go_ret
    exact ⟨ret_int (by rw [HFr.out, HZ.out]; rfl), HE.out.trans HE2.out⟩
  case neg =>
    have HZ := Lib.hid hz0
    have e1 : (z == -1) = false := by simpa using hz0
    have e2 : 0 ≤ z := by omega
    clear hz0
    go_wp2_with fail
    go_ret
    exact ⟨ret_int (by rw [HFr.out]; simp [HZ.out]), HE.out.trans HE2.out⟩
set_option maxRecDepth 100000 in
set_option maxHeartbeats 1000000 in
theorem spec_FirstFraud (v : MV) (m : GMuseum) (w : World) (hx : MRd w v m) (hf : MFit v) :
    Calls Tryz.prog 33 #[v.val] w fun e w' => e = .returned (.int .i64 (fraudI m)) ∧ Ext w w' := by
  obtain ⟨wb, hwb⟩ : ∃ wb, wb = w.alloc (.cells v.cells 30) := ⟨_, rfl⟩
  have hbx := MBox.new hwb
  have hE : Ext w wb := by rw [hwb]; exact (Ext.refl w).alloc _
  have HX := Lib.hid (hx.keep hE)
  have cA := Lib.hid (spec_AuditMuseum v m wb HX.out hf)
  obtain ⟨Hh, ⟨A0, n0, c0⟩, ⟨A1, n1, c1⟩, ⟨A2, n2, c2⟩, ⟨A3, n3, c3⟩, day, ⟨A4, n4, c4⟩⟩ := v
  have hxr : Hid (Rd wb 3 A4 n4 (m.rs.flatMap GEntry.enc)) := HX.out.rr
  have hl4 := Lib.hid (hxr.out.len GEntry.len (by omega))
  have HE := Lib.hid hE
  have Hwb : Hid (wb = w.alloc (.cells #[.int .i64 Hh, .slice A0 n0 c0, .slice A1 n1 c1, .slice A2 n2 c2, .slice A3 n3 c3, .int .i64 day, .slice A4 n4 c4] 30)) := hwb
  have HB := Lib.hid hbx
  have hbl := hbx.lt
  have HFr : Hid (fraudI m = if auditB m then -1 else if brokenI m.rs = -1 then (n4 : Int) else brokenI m.rs) := Lib.hid (by unfold fraudI; rw [hl4.out])
  have cK := Lib.hid (fun W (he : Ext wb W) => spec_FirstBroken A4 n4 c4 m.rs W (hxr.out.keep he))
  have hbd := brokF_bd m.rs 1 none 0
  obtain ⟨z, hz⟩ : ∃ z, z = brokenI m.rs := ⟨_, rfl⟩
  have hz1 : -1 ≤ z := by rw [hz]; exact hbd.1
  rw [← hz] at cK HFr
  obtain ⟨ab, hab⟩ : ∃ ab, ab = auditB m := ⟨_, rfl⟩
  rw [← hab] at cA HFr
  clear hE hwb hbx hx hf hz hab hbd
  show Calls Tryz.prog 33 #[.agg #[.int .i64 Hh, .slice A0 n0 c0, .slice A1 n1 c1, .slice A2 n2 c2, .slice A3 n3 c3, .int .i64 day, .slice A4 n4 c4]] w _
  obtain ⟨b0, b1, b2, b3, b4, b5, b6⟩ := HB.out.cell
  simp only at b0 b1 b2 b3 b4 b5 b6
  go_enter Tryz.func33, Tryz.ntmps33
  go_wp2_with (go_at_call 32; refine (fun h : Hid _ => h.out) ?_)
  unfold Hid
  rw [← Hwb.out]
  refine cA.out.mono ?_
  rintro e w1 ⟨rfl, h1⟩
  have HE1 := Lib.hid h1
  clear h1 b0 b1 b2 b3 b4 b5 b6
  cases ab
  case true =>
    go_wp2_with fail
    go_ret
    exact ⟨ret_int (by rw [HFr.out]; rfl), HE.out.trans HE1.out⟩
  obtain ⟨b0, b1, b2, b3, b4, b5, b6⟩ := (HB.out.keep HE1.out).cell
  simp only at b0 b1 b2 b3 b4 b5 b6
  go_wp2_with (go_at_call 102; refine (fun h : Hid _ => h.out) ?_)
  unfold Hid
  refine (cK.out w1 HE1.out).mono ?_
  rintro e w2 ⟨rfl, h2⟩
  have HE2 := Lib.hid (HE1.out.trans h2)
  clear h2 b0 b1 b2 b3 b4 b5 b6
  obtain ⟨b0, b1, b2, b3, b4, b5, b6⟩ := (HB.out.keep HE2.out).cell
  simp only at b0 b1 b2 b3 b4 b5 b6
  by_cases hz0 : z = -1
  case pos =>
    have HZ := Lib.hid hz0
    have e1 : (z == -1) = true := by simpa using hz0
    have e2 : ¬ 0 ≤ z := by omega
    clear hz0
    go_wp2_with fail
    go_ret
    exact ⟨ret_int (by rw [HFr.out, HZ.out]; rfl), HE.out.trans HE2.out⟩
  case neg =>
    have HZ := Lib.hid hz0
    have e1 : (z == -1) = false := by simpa using hz0
    have e2 : 0 ≤ z := by omega
    clear hz0
    go_wp2_with fail
    go_ret
    exact ⟨ret_int (by rw [HFr.out]; simp [HZ.out]), HE.out.trans HE2.out⟩
end Go.Proofs.YtkelmeemblmggaaGreatDoor
/- The walk of the law on MuseumOk; no condition. -/
namespace Go.Proofs.YtkelmeemblmggaaGreatDoor
set_option linter.unusedSimpArgs false
set_option linter.unusedVariables false
open Go.RowKit Go.Sort
theorem bulk_bd {v : MV} {m : GMuseum} (h : bulkM v m ≤ 1048576) : v.sd.n ≤ 1048576 ∧ v.sf.n ≤ 1048576 ∧ v.sp.n ≤ 1048576 ∧ v.sg.n ≤ 1048576 ∧ v.sr.n ≤ 1048576 := by
  have := bulkE_nn m.rs
  unfold bulkM at h
  omega
/-- The cells of a box in a world, told again. -/
def MCells (w : World) (b : Nat) (v : MV) : Prop := w.cell? ⟨b, 0, none⟩ = some (.int .i64 v.H) ∧ w.cell? ⟨b, 1, none⟩ = some (.slice v.sd.A v.sd.n v.sd.c) ∧ w.cell? ⟨b, 2, none⟩ = some (.slice v.sf.A v.sf.n v.sf.c) ∧ w.cell? ⟨b, 3, none⟩ = some (.slice v.sp.A v.sp.n v.sp.c) ∧ w.cell? ⟨b, 4, none⟩ = some (.slice v.sg.A v.sg.n v.sg.c) ∧ w.cell? ⟨b, 5, none⟩ = some (.int .i64 v.d) ∧ w.cell? ⟨b, 6, none⟩ = some (.slice v.sr.A v.sr.n v.sr.c)
theorem MBox.cells {w : World} {b : Nat} {v : MV} (h : MBox w b v) : MCells w b v := ⟨h.c0, h.c1, h.c2, h.c3, h.c4, h.c5, h.c6⟩
end Go.Proofs.YtkelmeemblmggaaGreatDoor
/- The walks of the laws on AuditMuseum and FirstFraud; no condition but what stands at each theorem. -/
namespace Go.Proofs.YtkelmeemblmggaaGreatDoor
set_option linter.unusedSimpArgs false
set_option linter.unusedVariables false
open Go.RowKit Go.Sort
set_option maxRecDepth 100000 in
set_option maxHeartbeats 4000000 in
theorem law_AuditMuseum (v : MV) (m : GMuseum) (w : World) (hx : MRd w v m) (hM : Hid (∃ k, w.cell? ⟨0, 0, none⟩ = some (.int .i64 k))) : Calls Tryz.prog 5 #[v.val] w fun e w' => e = .returned (.bool true) ∧ Ext w w' := by
  obtain ⟨wb, hwb⟩ : ∃ wb, wb = w.alloc (.cells v.cells 49) := ⟨_, rfl⟩
  have hbx := MBox.new hwb
  have hE : Ext w wb := by rw [hwb]; exact (Ext.refl w).alloc _
  have HX := Lib.hid (hx.keep hE)
  have cZ := Lib.hid (laws_szMuseum v m 1048576 wb HX.out (by omega) (by omega))
  have hbd : Hid (bulkM v m ≤ 1048576 → v.sd.n ≤ 1048576 ∧ v.sf.n ≤ 1048576 ∧ v.sp.n ≤ 1048576 ∧ v.sg.n ≤ 1048576 ∧ v.sr.n ≤ 1048576) := bulk_bd
  have cT := Lib.hid (fun W (he : Ext wb W) a b c d f => laws_toMuseum v m W (HX.out.keep he) a b c d f)
  obtain ⟨bk, hbk⟩ : ∃ bk, bk = bulkM v m := ⟨_, rfl⟩
  rw [← hbk] at cZ hbd
  obtain ⟨Hh, ⟨A0, n0, c0⟩, ⟨A1, n1, c1⟩, ⟨A2, n2, c2⟩, ⟨A3, n3, c3⟩, day, ⟨A4, n4, c4⟩⟩ := v
  have HE := Lib.hid hE
  have Hwb : Hid (wb = w.alloc (.cells #[.int .i64 Hh, .slice A0 n0 c0, .slice A1 n1 c1, .slice A2 n2 c2, .slice A3 n3 c3, .int .i64 day, .slice A4 n4 c4] 49)) := hwb
  have HB := Lib.hid hbx
  have hbl := hbx.lt
  have hsb : w.heap.size + 1 ≤ wb.heap.size := by rw [hwb]; simp
  clear hE hwb hbx hx hbk
  show Calls Tryz.prog 5 #[.agg #[.int .i64 Hh, .slice A0 n0 c0, .slice A1 n1 c1, .slice A2 n2 c2, .slice A3 n3 c3, .int .i64 day, .slice A4 n4 c4]] w _
  obtain ⟨b0, b1, b2, b3, b4, b5, b6⟩ := HB.out.cells
  simp only at b0 b1 b2 b3 b4 b5 b6
  by_cases q : bk ≤ 1048576
  case neg =>
    rw [if_pos (by omega)] at cZ
    go_enter Tryz.func5, Tryz.ntmps5
    go_wp2_with fail
    rw [← Hwb.out]
    refine cZ.out.mono ?_
    rintro e w1 ⟨rfl, h1⟩
    have HE1 := Lib.hid h1
    clear h1 b0 b1 b2 b3 b4 b5 b6
    go_wp2_with fail
    go_ret
    exact ⟨rfl, HE.out.trans HE1.out⟩
  rw [if_neg (by omega)] at cZ
  obtain ⟨d0, d1, d2, d3, d4⟩ := hbd.out q
  simp only at d0 d1 d2 d3 d4
  have hnb : ¬ (1048576 - bk < 0) := by omega
  go_enter Tryz.func5, Tryz.ntmps5
  go_wp2_with fail
  rw [← Hwb.out]
  refine cZ.out.mono ?_
  rintro e w1 ⟨rfl, e1⟩
  clear b0 b1 b2 b3 b4 b5 b6
  obtain ⟨b0, b1, b2, b3, b4, b5, b6⟩ := (HB.out.keep e1).cells
  simp only at b0 b1 b2 b3 b4 b5 b6
  go_wp2_with fail
  refine (cT.out _ e1 d0 d1 d2 d3 d4).mono ?_
  rintro e w2 ⟨gd, gf, gp, gg, gr, he, h2, o2⟩
  simp only [MV.val, MV.cells] at he
  subst he
  have e2 := e1.trans h2
  have cM := Lib.hid (spec_AuditMuseum _ m w2 o2.rd (MFit.of_own o2 d0 d1 d2 d3 d4))
  clear h2 o2 e1 b0 b1 b2 b3 b4 b5 b6
  go_wp2_with fail
  refine cM.out.mono ?_
  rintro e w3 ⟨rfl, h3⟩
  have e3 := e2.trans h3
  obtain ⟨b0, b1, b2, b3, b4, b5, b6⟩ := (HB.out.keep e3).cells
  simp only at b0 b1 b2 b3 b4 b5 b6
  clear h3 e2
  go_wp2_with fail
  refine (cT.out _ e3 d0 d1 d2 d3 d4).mono ?_
  rintro e w4 ⟨xd, xf, xp, xg, xr, he, h4, o4⟩
  simp only [MV.val, MV.cells] at he
  subst he
  have e4 := e3.trans h4
  clear h4 e3 b0 b1 b2 b3 b4 b5 b6 cM
  obtain ⟨W, hW⟩ : ∃ W, W = w4.alloc (.cells (MV.cells ⟨Hh, ⟨some ⟨xd, 0, none⟩, n0, n0⟩, ⟨some ⟨xf, 0, none⟩, n1, n1⟩, ⟨some ⟨xp, 0, none⟩, n2, n2⟩, ⟨some ⟨xg, 0, none⟩, n3, n3⟩, day, ⟨some ⟨xr, 0, none⟩, n4, n4⟩⟩) 30) := ⟨_, rfl⟩
  have hxb := MBox.new hW
  have e5 : Ext wb W := by rw [hW]; exact e4.alloc _
  have o5 : MRd W _ m := o4.rd.keep (by rw [hW]; exact (Ext.refl _).alloc _)
  have hW' : Hid (W = w4.alloc (.cells #[.int .i64 Hh, .slice (some ⟨xd, 0, none⟩) n0 n0, .slice (some ⟨xf, 0, none⟩) n1 n1, .slice (some ⟨xp, 0, none⟩) n2 n2, .slice (some ⟨xg, 0, none⟩) n3 n3, .int .i64 day, .slice (some ⟨xr, 0, none⟩) n4 n4] 30)) := hW
  have l4 := hxb.lt
  have HXB := Lib.hid hxb
  have HO5 := Lib.hid o5
  have hg4 : wb.heap.size ≤ w4.heap.size := e4.size
  have hfit5 := Lib.hid (MFit.of_own o4 d0 d1 d2 d3 d4)
  clear o4 hW hxb o5 e4
  obtain ⟨x0, x1, x2, x3, x4, x5, x6⟩ := HXB.out.cells
  simp only at x0 x1 x2 x3 x4 x5 x6
  rw [hW'.out] at x0 x1 x2 x3 x4 x5 x6
  go_wp2_with fail
  rw [← hW'.out]
  have cI := Lib.hid (impl_AuditMuseum _ m W HO5.out hfit5.out (Lib.hid (max_ext hM.out (HE.out.trans e5))))
  refine cI.out.mono ?_
  rintro e w6 ⟨rfl, h6⟩
  have e6 := e5.trans h6
  have hb6 := HB.out.keep e6
  have hx6 := HXB.out.keep h6
  have E6 := Lib.hid h6
  clear h6 e5 x0 x1 x2 x3 x4 x5 x6 cI
  obtain ⟨b0, b1, b2, b3, b4, b5, b6⟩ := hb6.cells
  obtain ⟨x0, x1, x2, x3, x4, x5, x6⟩ := hx6.cells
  simp only at b0 b1 b2 b3 b4 b5 b6 x0 x1 x2 x3 x4 x5 x6
  have lx := hx6.lt
  have lb := hb6.lt
  have HE6 := Lib.hid e6
  clear hb6 hx6 e6
  go_wp2_with fail
  go_region_held3 (fun w' => w'.cell? ⟨w.heap.size, 0, none⟩ = some (.int .i64 Hh) ∧ w'.cell? ⟨w.heap.size, 1, none⟩ = some (.slice A0 n0 c0) ∧ w'.cell? ⟨w.heap.size, 2, none⟩ = some (.slice A1 n1 c1) ∧ w'.cell? ⟨w.heap.size, 3, none⟩ = some (.slice A2 n2 c2) ∧ w'.cell? ⟨w.heap.size, 4, none⟩ = some (.slice A3 n3 c3) ∧ w'.cell? ⟨w.heap.size, 5, none⟩ = some (.int .i64 day) ∧ w'.cell? ⟨w.heap.size, 6, none⟩ = some (.slice A4 n4 c4) ∧ w'.cell? ⟨w4.heap.size, 0, none⟩ = some (.int .i64 Hh) ∧ w'.cell? ⟨w4.heap.size, 1, none⟩ = some (.slice (some ⟨xd, 0, none⟩) n0 n0) ∧ w'.cell? ⟨w4.heap.size, 2, none⟩ = some (.slice (some ⟨xf, 0, none⟩) n1 n1) ∧ w'.cell? ⟨w4.heap.size, 3, none⟩ = some (.slice (some ⟨xp, 0, none⟩) n2 n2) ∧ w'.cell? ⟨w4.heap.size, 4, none⟩ = some (.slice (some ⟨xg, 0, none⟩) n3 n3) ∧ w'.cell? ⟨w4.heap.size, 5, none⟩ = some (.int .i64 day) ∧ w'.cell? ⟨w4.heap.size, 6, none⟩ = some (.slice (some ⟨xr, 0, none⟩) n4 n4)) (go_keep) (first
    | (go_at_call 26; refine (cT.out _ (HE6.out.trans ((Ext.refl _).drewN 1)) d0 d1 d2 d3 d4).mono ?_; rintro e w7 ⟨yd, yf, yp, yg, yr, he, h7, o7⟩; simp only [MV.val, MV.cells] at he; subst he; obtain ⟨s0, s1, s2, s3, s4, s5, s6⟩ := (HB.out.keep (HE6.out.trans (Ext.trans ((Ext.refl _).drewN 1) h7))).cells; obtain ⟨t0, t1, t2, t3, t4, t5, t6⟩ := (HXB.out.keep (E6.out.trans (Ext.trans ((Ext.refl _).drewN 1) h7))).cells; simp only at s0 s1 s2 s3 s4 s5 s6 t0 t1 t2 t3 t4 t5 t6)
    | (go_at_call 29; refine (laws_eqMuseum _ _ m _ (HO5.out.keep (E6.out.trans (Ext.trans ((Ext.refl _).drewN 1) h7))) o7.rd).mono ?_; rintro e w8 ⟨rfl, h8⟩; obtain ⟨p0, p1, p2, p3, p4, p5, p6⟩ := (HB.out.keep (HE6.out.trans ((Ext.trans ((Ext.refl _).drewN 1) h7).trans h8))).cells; obtain ⟨r0, r1, r2, r3, r4, r5, r6⟩ := (HXB.out.keep (E6.out.trans ((Ext.trans ((Ext.refl _).drewN 1) h7).trans h8))).cells; simp only at p0 p1 p2 p3 p4 p5 p6 r0 r1 r2 r3 r4 r5 r6))
  have HE8 := Lib.hid (HE6.out.trans ((Ext.trans ((Ext.refl _).drewN 1) h7).trans h8))
  clear h7 h8 o7 b0 b1 b2 b3 b4 b5 b6 x0 x1 x2 x3 x4 x5 x6 s0 s1 s2 s3 s4 s5 s6 t0 t1 t2 t3 t4 t5 t6 p0 p1 p2 p3 p4 p5 p6 r0 r1 r2 r3 r4 r5 r6
  go_wp2_with fail
  go_ret
  exact ⟨rfl, HE.out.trans HE8.out⟩
set_option maxRecDepth 100000 in
set_option maxHeartbeats 4000000 in
theorem law_FirstFraud (v : MV) (m : GMuseum) (w : World) (hx : MRd w v m) (hM : Hid (∃ k, w.cell? ⟨0, 0, none⟩ = some (.int .i64 k))) : Calls Tryz.prog 6 #[v.val] w fun e w' => e = .returned (.bool true) ∧ Ext w w' := by
  obtain ⟨wb, hwb⟩ : ∃ wb, wb = w.alloc (.cells v.cells 49) := ⟨_, rfl⟩
  have hbx := MBox.new hwb
  have hE : Ext w wb := by rw [hwb]; exact (Ext.refl w).alloc _
  have HX := Lib.hid (hx.keep hE)
  have cZ := Lib.hid (laws_szMuseum v m 1048576 wb HX.out (by omega) (by omega))
  have hbd : Hid (bulkM v m ≤ 1048576 → v.sd.n ≤ 1048576 ∧ v.sf.n ≤ 1048576 ∧ v.sp.n ≤ 1048576 ∧ v.sg.n ≤ 1048576 ∧ v.sr.n ≤ 1048576) := bulk_bd
  have cT := Lib.hid (fun W (he : Ext wb W) a b c d f => laws_toMuseum v m W (HX.out.keep he) a b c d f)
  obtain ⟨bk, hbk⟩ : ∃ bk, bk = bulkM v m := ⟨_, rfl⟩
  rw [← hbk] at cZ hbd
  obtain ⟨Hh, ⟨A0, n0, c0⟩, ⟨A1, n1, c1⟩, ⟨A2, n2, c2⟩, ⟨A3, n3, c3⟩, day, ⟨A4, n4, c4⟩⟩ := v
  have HE := Lib.hid hE
  have Hwb : Hid (wb = w.alloc (.cells #[.int .i64 Hh, .slice A0 n0 c0, .slice A1 n1 c1, .slice A2 n2 c2, .slice A3 n3 c3, .int .i64 day, .slice A4 n4 c4] 49)) := hwb
  have HB := Lib.hid hbx
  have hbl := hbx.lt
  have hsb : w.heap.size + 1 ≤ wb.heap.size := by rw [hwb]; simp
  clear hE hwb hbx hx hbk
  show Calls Tryz.prog 6 #[.agg #[.int .i64 Hh, .slice A0 n0 c0, .slice A1 n1 c1, .slice A2 n2 c2, .slice A3 n3 c3, .int .i64 day, .slice A4 n4 c4]] w _
  obtain ⟨b0, b1, b2, b3, b4, b5, b6⟩ := HB.out.cells
  simp only at b0 b1 b2 b3 b4 b5 b6
  by_cases q : bk ≤ 1048576
  case neg =>
    rw [if_pos (by omega)] at cZ
    go_enter Tryz.func6, Tryz.ntmps6
    go_wp2_with fail
    rw [← Hwb.out]
    refine cZ.out.mono ?_
    rintro e w1 ⟨rfl, h1⟩
    have HE1 := Lib.hid h1
    clear h1 b0 b1 b2 b3 b4 b5 b6
    go_wp2_with fail
    go_ret
    exact ⟨rfl, HE.out.trans HE1.out⟩
  rw [if_neg (by omega)] at cZ
  obtain ⟨d0, d1, d2, d3, d4⟩ := hbd.out q
  simp only at d0 d1 d2 d3 d4
  have hnb : ¬ (1048576 - bk < 0) := by omega
  go_enter Tryz.func6, Tryz.ntmps6
  go_wp2_with fail
  rw [← Hwb.out]
  refine cZ.out.mono ?_
  rintro e w1 ⟨rfl, e1⟩
  clear b0 b1 b2 b3 b4 b5 b6
  obtain ⟨b0, b1, b2, b3, b4, b5, b6⟩ := (HB.out.keep e1).cells
  simp only at b0 b1 b2 b3 b4 b5 b6
  go_wp2_with fail
  refine (cT.out _ e1 d0 d1 d2 d3 d4).mono ?_
  rintro e w2 ⟨gd, gf, gp, gg, gr, he, h2, o2⟩
  simp only [MV.val, MV.cells] at he
  subst he
  have e2 := e1.trans h2
  have cM := Lib.hid (spec_FirstFraud _ m w2 o2.rd (MFit.of_own o2 d0 d1 d2 d3 d4))
  clear h2 o2 e1 b0 b1 b2 b3 b4 b5 b6
  go_wp2_with fail
  refine cM.out.mono ?_
  rintro e w3 ⟨rfl, h3⟩
  have e3 := e2.trans h3
  obtain ⟨b0, b1, b2, b3, b4, b5, b6⟩ := (HB.out.keep e3).cells
  simp only at b0 b1 b2 b3 b4 b5 b6
  clear h3 e2
  go_wp2_with fail
  refine (cT.out _ e3 d0 d1 d2 d3 d4).mono ?_
  rintro e w4 ⟨xd, xf, xp, xg, xr, he, h4, o4⟩
  simp only [MV.val, MV.cells] at he
  subst he
  have e4 := e3.trans h4
  clear h4 e3 b0 b1 b2 b3 b4 b5 b6 cM
  obtain ⟨W, hW⟩ : ∃ W, W = w4.alloc (.cells (MV.cells ⟨Hh, ⟨some ⟨xd, 0, none⟩, n0, n0⟩, ⟨some ⟨xf, 0, none⟩, n1, n1⟩, ⟨some ⟨xp, 0, none⟩, n2, n2⟩, ⟨some ⟨xg, 0, none⟩, n3, n3⟩, day, ⟨some ⟨xr, 0, none⟩, n4, n4⟩⟩) 30) := ⟨_, rfl⟩
  have hxb := MBox.new hW
  have e5 : Ext wb W := by rw [hW]; exact e4.alloc _
  have o5 : MRd W _ m := o4.rd.keep (by rw [hW]; exact (Ext.refl _).alloc _)
  have hW' : Hid (W = w4.alloc (.cells #[.int .i64 Hh, .slice (some ⟨xd, 0, none⟩) n0 n0, .slice (some ⟨xf, 0, none⟩) n1 n1, .slice (some ⟨xp, 0, none⟩) n2 n2, .slice (some ⟨xg, 0, none⟩) n3 n3, .int .i64 day, .slice (some ⟨xr, 0, none⟩) n4 n4] 30)) := hW
  have l4 := hxb.lt
  have HXB := Lib.hid hxb
  have HO5 := Lib.hid o5
  have hg4 : wb.heap.size ≤ w4.heap.size := e4.size
  have hfit5 := Lib.hid (MFit.of_own o4 d0 d1 d2 d3 d4)
  clear o4 hW hxb o5 e4
  obtain ⟨x0, x1, x2, x3, x4, x5, x6⟩ := HXB.out.cells
  simp only at x0 x1 x2 x3 x4 x5 x6
  rw [hW'.out] at x0 x1 x2 x3 x4 x5 x6
  go_wp2_with fail
  rw [← hW'.out]
  have cI := Lib.hid (impl_FirstFraud _ m W HO5.out hfit5.out (Lib.hid (max_ext hM.out (HE.out.trans e5))))
  refine cI.out.mono ?_
  rintro e w6 ⟨rfl, h6⟩
  have e6 := e5.trans h6
  have hb6 := HB.out.keep e6
  have hx6 := HXB.out.keep h6
  have E6 := Lib.hid h6
  clear h6 e5 x0 x1 x2 x3 x4 x5 x6 cI
  obtain ⟨b0, b1, b2, b3, b4, b5, b6⟩ := hb6.cells
  obtain ⟨x0, x1, x2, x3, x4, x5, x6⟩ := hx6.cells
  simp only at b0 b1 b2 b3 b4 b5 b6 x0 x1 x2 x3 x4 x5 x6
  have lx := hx6.lt
  have lb := hb6.lt
  have HE6 := Lib.hid e6
  clear hb6 hx6 e6
  go_wp2_with fail
  go_region_held3 (fun w' => w'.cell? ⟨w.heap.size, 0, none⟩ = some (.int .i64 Hh) ∧ w'.cell? ⟨w.heap.size, 1, none⟩ = some (.slice A0 n0 c0) ∧ w'.cell? ⟨w.heap.size, 2, none⟩ = some (.slice A1 n1 c1) ∧ w'.cell? ⟨w.heap.size, 3, none⟩ = some (.slice A2 n2 c2) ∧ w'.cell? ⟨w.heap.size, 4, none⟩ = some (.slice A3 n3 c3) ∧ w'.cell? ⟨w.heap.size, 5, none⟩ = some (.int .i64 day) ∧ w'.cell? ⟨w.heap.size, 6, none⟩ = some (.slice A4 n4 c4) ∧ w'.cell? ⟨w4.heap.size, 0, none⟩ = some (.int .i64 Hh) ∧ w'.cell? ⟨w4.heap.size, 1, none⟩ = some (.slice (some ⟨xd, 0, none⟩) n0 n0) ∧ w'.cell? ⟨w4.heap.size, 2, none⟩ = some (.slice (some ⟨xf, 0, none⟩) n1 n1) ∧ w'.cell? ⟨w4.heap.size, 3, none⟩ = some (.slice (some ⟨xp, 0, none⟩) n2 n2) ∧ w'.cell? ⟨w4.heap.size, 4, none⟩ = some (.slice (some ⟨xg, 0, none⟩) n3 n3) ∧ w'.cell? ⟨w4.heap.size, 5, none⟩ = some (.int .i64 day) ∧ w'.cell? ⟨w4.heap.size, 6, none⟩ = some (.slice (some ⟨xr, 0, none⟩) n4 n4)) (go_keep) (first
    | (go_at_call 26; refine (cT.out _ (HE6.out.trans ((Ext.refl _).drewN 1)) d0 d1 d2 d3 d4).mono ?_; rintro e w7 ⟨yd, yf, yp, yg, yr, he, h7, o7⟩; simp only [MV.val, MV.cells] at he; subst he; obtain ⟨s0, s1, s2, s3, s4, s5, s6⟩ := (HB.out.keep (HE6.out.trans (Ext.trans ((Ext.refl _).drewN 1) h7))).cells; obtain ⟨t0, t1, t2, t3, t4, t5, t6⟩ := (HXB.out.keep (E6.out.trans (Ext.trans ((Ext.refl _).drewN 1) h7))).cells; simp only at s0 s1 s2 s3 s4 s5 s6 t0 t1 t2 t3 t4 t5 t6)
    | (go_at_call 29; refine (laws_eqMuseum _ _ m _ (HO5.out.keep (E6.out.trans (Ext.trans ((Ext.refl _).drewN 1) h7))) o7.rd).mono ?_; rintro e w8 ⟨rfl, h8⟩; obtain ⟨p0, p1, p2, p3, p4, p5, p6⟩ := (HB.out.keep (HE6.out.trans ((Ext.trans ((Ext.refl _).drewN 1) h7).trans h8))).cells; obtain ⟨r0, r1, r2, r3, r4, r5, r6⟩ := (HXB.out.keep (E6.out.trans ((Ext.trans ((Ext.refl _).drewN 1) h7).trans h8))).cells; simp only at p0 p1 p2 p3 p4 p5 p6 r0 r1 r2 r3 r4 r5 r6))
  have HE8 := Lib.hid (HE6.out.trans ((Ext.trans ((Ext.refl _).drewN 1) h7).trans h8))
  clear h7 h8 o7 b0 b1 b2 b3 b4 b5 b6 x0 x1 x2 x3 x4 x5 x6 s0 s1 s2 s3 s4 s5 s6 t0 t1 t2 t3 t4 t5 t6 p0 p1 p2 p3 p4 p5 p6 r0 r1 r2 r3 r4 r5 r6
  go_wp2_with fail
  go_ret
  exact ⟨rfl, HE.out.trans HE8.out⟩
end Go.Proofs.YtkelmeemblmggaaGreatDoor
