/- Contract of the reference's ReplayMoves; no condition but what stands at each theorem. -/
import Derived.Test.YtcmbjkidgemdaaaSHo
namespace Go.Proofs.Ytcmbjkidgemdaaa
set_option linter.unusedSimpArgs false
set_option linter.unusedVariables false
open Go.RowKit Go.Sort
set_option maxRecDepth 100000 in
set_option maxHeartbeats 8000000 in
theorem spec_ReplayMoves (H : Int) (A : Option Addr) (n c : Nat) (ds : List GDoor) (A1 : Option Addr) (n1 c1 : Nat) (ps : List Int) (A2 : Option Addr) (n2 c2 : Nat) (ms : List GMove) (w : World) (hx : Rd w 2 A n (ds.flatMap GDoor.enc)) (hx1 : Rd w 1 A1 n1 (ps.flatMap ienc)) (hx2 : Rd w 4 A2 n2 (ms.flatMap GMove.enc)) (hnc : Hid (A1 = none → c1 = 0)) (hn1 : n1 ≤ 1048576) :
    Calls Try.prog 44 #[.agg #[.int .i64 H, .slice A n c], .slice A1 n1 c1, .slice A2 n2 c2] w (ListBool (replayL H ds ps ms).1 (replayL H ds ps ms).2 w) := by
  have hn2 := hx2.2.1
  have hl1 := Lib.hid (hx1.len ienc_len (by omega))
  have hl2 := Lib.hid (hx2.len GMove.len (by omega))
  obtain ⟨wb, hwb⟩ : ∃ wb, wb = w.alloc (.cells #[.int .i64 H, .slice A n c] 29) := ⟨_, rfl⟩
  obtain ⟨hE, hsb, a0, a1⟩ := box2 w _ _ _ wb hwb
  have HE := Lib.hid hE
  have Hwb := Lib.hid hwb
  have Ha0 := Lib.hid a0
  have Ha1 := Lib.hid a1
  have hxb := Lib.hid (hx.keep hE)
  have hxb1 := Lib.hid (hx1.keep hE)
  have hxb2 := Lib.hid (hx2.keep hE)
  have hbl : w.heap.size < wb.heap.size := by omega
  clear hE hwb a0 a1 hx hx1 hx2
  go_enter Try.func44, Try.ntmps44
  go_wp2_with fail
  rw [← Hwb.out]
  refine (spec_l35Copy A1 n1 c1 ps wb hxb1.out hnc hn1).mono ?_
  rintro e w1 ⟨g, c', rfl, he, ho⟩
  have HO1 := Lib.hid ho
  have HE1 := Lib.hid he
  clear ho he
  have cP := Lib.hid (spec_PlacesOk H A n c ds A1 n1 c1 ps w1 (hxb.out.keep HE1.out) (hxb1.out.keep HE1.out))
  have a0 := (HE1.out.cellAt w.heap.size hbl 0).trans Ha0.out
  have a1 := (HE1.out.cellAt w.heap.size hbl 1).trans Ha1.out
  cases hok : (placesB H ds ps && decide (n2 ≤ 30))
  case false =>
    have HL : Hid (replayL H ds ps ms = (ps, false)) := by unfold Hid replayL; rw [hl2.out, hok]; rfl
    cases hP : placesB H ds ps
    case false =>
      rw [hP] at cP
      clear hok hP
      go_wp2_with fail
      refine cP.out.mono ?_
      rintro e w2 ⟨rfl, he2⟩
      have HE2 := Lib.hid (Ext.trans HE1.out he2)
      have HO2 := Lib.hid (own_keep HO1.out he2)
      clear he2 a0 a1
      go_wp2_with fail
      go_ret2
      exact ⟨.slice (some ⟨g, 0, none⟩) n1 c', (by rw [HL.out]; rfl), HE.out.trans HE2.out, by rw [HL.out, hl1.out]; exact own_weak HO2.out (by omega)⟩
    case true =>
      have h30 : ¬ n2 ≤ 30 := by rw [hP] at hok; simpa using hok
      rw [hP] at cP
      clear hok hP
      go_wp2_with fail
      refine cP.out.mono ?_
      rintro e w2 ⟨rfl, he2⟩
      have HE2 := Lib.hid (Ext.trans HE1.out he2)
      have HO2 := Lib.hid (own_keep HO1.out he2)
      clear he2 a0 a1
      go_wp2_with fail
      go_ret2
      exact ⟨.slice (some ⟨g, 0, none⟩) n1 c', (by rw [HL.out]; rfl), HE.out.trans HE2.out, by rw [HL.out, hl1.out]; exact own_weak HO2.out (by omega)⟩
  case true =>
    obtain ⟨hP, h30⟩ : placesB H ds ps = true ∧ n2 ≤ 30 := by simpa using hok
    have HL : Hid (replayL H ds ps ms = replayF H ds ps ps ms) := by unfold Hid replayL; rw [hl2.out, hok]; rfl
    have hHB : Hid (houseB H ds = true) := by
      unfold Hid
      simp only [placesB, Bool.and_eq_true] at hP
      exact hallsB_house hP.2
    rw [hP] at cP
    clear hok hP
    go_wp2_with fail
    refine cP.out.mono ?_
    rintro e w2 ⟨rfl, he2⟩
    have HE2 := Lib.hid (Ext.trans HE1.out he2)
    have HO2 := Lib.hid (own_keep HO1.out he2)
    clear he2 a0 a1
    go_wp2_with fail
    go_loopw [9] (fun i wr => ∃ (k : Nat) (u : List Int), k ≤ n2 ∧ i = .int .i64 k ∧ wr.ownsRow wb.heap.size 3 1 (.slice (some ⟨g, 0, none⟩) n1 c') n1 (u.flatMap ienc) ∧ Hid (u.length = n1) ∧ Hid (replayF H ds ps ps ms = replayF H ds ps u (ms.drop k)) ∧ Ext wb wr) (fun i _ => n2 - (intOf i).toNat)
    case atStart => exact ⟨0, ps, Nat.zero_le _, rfl, HO2.out, hl1, rfl, HE2.out⟩
    case round =>
      obtain ⟨k, u, hk, rfl, hown, hul, hz, hb⟩ := hrel
      have HO := Lib.hid hown
      have HB := Lib.hid hb
      have a0 := (hb.cellAt w.heap.size hbl 0).trans Ha0.out
      have a1 := (hb.cellAt w.heap.size hbl 1).trans Ha1.out
      have hbr := hb.size
      have m0 : wr.heap.size ≠ w.heap.size := by omega
      have l0 : w.heap.size < wr.heap.size := by omega
      by_cases hlt : k < n2
      · obtain ⟨b, off, m, rfl, hbs, hmk, p0, p1, p2, p3⟩ := GMove.at_ (hxb2.out.keep hb) hlt
        have HD := Lib.hid (drop_cons hmk)
        clear hmk hb hown
        go_wp2_with fail
        obtain ⟨wd, hwd⟩ : ∃ wd, wd = wr.alloc (.cells #[.int .i64 m.o, .int .i64 m.t, .int .i64 m.f, .int .i64 m.s] 49) := ⟨_, rfl⟩
        rw [← hwd]
        obtain ⟨hEd, hsd, b0, b1, b2, b3⟩ := box4 wr _ _ _ _ _ wd hwd
        have HBd := Lib.hid (HB.out.trans hEd)
        have HOd := Lib.hid (own_keep HO.out hEd)
        have Ha0 := Lib.hid ((hEd.cellAt w.heap.size (by omega) 0).trans a0)
        have Ha1 := Lib.hid ((hEd.cellAt w.heap.size (by omega) 1).trans a1)
        clear hwd a0 a1 b2 b3
        have a0 := Ha0.out
        have a1 := Ha1.out
        have cO := Lib.hid (fun w => spec_l01In m.o 0 ((n1 : Int) - 1) w)
        have cT := Lib.hid (fun w => spec_l01In m.t 0 (wrap64 (H - 1)) w)
        have hsw : w.heap.size + 1 ≤ wb.heap.size := by omega
        have hul' : Hid ((u.length : Int) = n1) := by unfold Hid; rw [hul.out]
        have ew : IntKind.i64.wrap ((n1 : Int) - 1) = (n1 : Int) - 1 := IntWalk.i64_in _ (by omega)
        have eH : IntKind.i64.wrap (H - 1) = wrap64 (H - 1) := IntWalk.i64_left _
        cases hO : inB m.o 0 ((n1 : Int) - 1)
        case false =>
          rw [hO] at cO
          have HG : Hid (goB H ds u m = false) := by unfold Hid goB; rw [hul'.out, hO]; rfl
          clear hO
          have HF : Hid (replayF H ds ps ps ms = (ps, false)) := by unfold Hid; rw [hz.out, HD.out, replayF, HG.out]; rfl
          have y0 := cell_regrown a0
          have y1 := cell_regrown a1
          have y2 := cell_regrown b0
          have y3 := cell_regrown b1
          (refine wp_region_ext (by kernel_rfl) (by kernel_rfl) ?_; (repeat (go_big_quiet_step (first | (go_at_call 56; with_reducible exact Calls.rg0 (cO.out _)) | (go_at_call 56; with_reducible exact Calls.rg0 (cT.out _)) | (go_at_call 70; with_reducible exact Calls.rg (cD.out _ _))))); refine wpQuiet_nil ?_)
          intro w3 he3
          have HE3 := Lib.hid (HBd.out.trans he3)
          clear he3 hEd b0 b1 a0 a1 y0 y1 y2 y3
          go_wp2_with fail
          refine (spec_l35Copy A1 n1 c1 ps w3 (hxb1.out.keep HE3.out) hnc hn1).mono ?_
          rintro e w4 ⟨g2, c2', rfl, he4, ho4⟩
          have HO4 := Lib.hid ho4
          have HE4 := Lib.hid he4
          have hs3 := HE3.out.size
          clear ho4 he4
          go_wp2_with fail
          go_ret2
          exact ⟨.slice (some ⟨g2, 0, none⟩) n1 c2', (by rw [HL.out, HF.out]; rfl), HE.out.trans (HE3.out.trans HE4.out), by rw [HL.out, HF.out]; simp only; rw [hl1.out]; exact own_weak HO4.out (by omega)⟩
        case true =>
          have ho0 : 0 ≤ m.o ∧ m.o < n1 := by simp only [inB, Bool.and_eq_true, decide_eq_true_eq] at hO; omega
          obtain ⟨j, hj⟩ := Int.eq_ofNat_of_zero_le ho0.1
          have hjn : j < n1 := by omega
          have i0 : (0 : Int) ≤ (j : Int) := by omega
          have i1 : (j : Int) < (n1 : Int) := by omega
          obtain ⟨g', hg', hbg, hblk⟩ := PBlk.of_own HOd.out (by omega)
          injection hg' with hg'
          injection hg' with hg'
          subst hg'
          have q0 := hblk.cell (i := j) (by rw [hul.out]; exact hjn)
          have q2 := hblk.lt
          obtain ⟨x, hx⟩ : ∃ x, x = u.getD j 0 := ⟨_, rfl⟩
          rw [← hx] at q0
          have HOo := Lib.hid hO
          rw [hO] at cO
          rw [hj] at b0 cO
          have HJ := Lib.hid hj
          have HXu := Lib.hid hx
          clear hO hj hx ho0 hblk
          have cD := Lib.hid (fun d os => spec_l23Door H A n c ds x m.t (grow (redrawn wd d) os) ((hxb.out.keep HBd.out).keep (ext_rg wd d os)))
          cases hT : inB m.t 0 (wrap64 (H - 1))
          case false =>
            rw [hT] at cT
            have HG : Hid (goB H ds u m = false) := by unfold Hid goB hallB; rw [hul'.out, HOo.out, hT]; rfl
            clear hT
            have HF : Hid (replayF H ds ps ps ms = (ps, false)) := by unfold Hid; rw [hz.out, HD.out, replayF, HG.out]; rfl
            have y0 := cell_regrown a0
            have y1 := cell_regrown a1
            have y2 := cell_regrown b0
            have y3 := cell_regrown b1
            have y4 := cell_regrown q0
            (refine wp_region_ext (by kernel_rfl) (by kernel_rfl) ?_; (repeat (go_big_quiet_step (first | (go_at_call 56; with_reducible exact Calls.rg0 (cO.out _)) | (go_at_call 56; with_reducible exact Calls.rg0 (cT.out _)) | (go_at_call 70; with_reducible exact Calls.rg (cD.out _ _))))); refine wpQuiet_nil ?_)
            intro w3 he3
            have HE3 := Lib.hid (HBd.out.trans he3)
            clear he3 hEd b0 b1 a0 a1 y0 y1 y2 y3
            go_wp2_with fail
            refine (spec_l35Copy A1 n1 c1 ps w3 (hxb1.out.keep HE3.out) hnc hn1).mono ?_
            rintro e w4 ⟨g2, c2', rfl, he4, ho4⟩
            have HO4 := Lib.hid ho4
            have HE4 := Lib.hid he4
            have hs3 := HE3.out.size
            clear ho4 he4
            go_wp2_with fail
            go_ret2
            exact ⟨.slice (some ⟨g2, 0, none⟩) n1 c2', (by rw [HL.out, HF.out]; rfl), HE.out.trans (HE3.out.trans HE4.out), by rw [HL.out, HF.out]; simp only; rw [hl1.out]; exact own_weak HO4.out (by omega)⟩
          case true =>
            rw [hT] at cT
            cases hE : (x == m.t)
            case true =>
              have HG : Hid (goB H ds u m = false) := by
                unfold Hid goB hallB hasDoorB
                rw [hul'.out, HOo.out, hT, HJ.out, Int.toNat_natCast, ← HXu.out, beq_iff_eq.1 hE, doorB_self hHB.out, Bool.and_false]; rfl
              clear hT
              have HF : Hid (replayF H ds ps ps ms = (ps, false)) := by unfold Hid; rw [hz.out, HD.out, replayF, HG.out]; rfl
              have y0 := cell_regrown a0
              have y1 := cell_regrown a1
              have y2 := cell_regrown b0
              have y3 := cell_regrown b1
              have y4 := cell_regrown q0
              (refine wp_region_ext (by kernel_rfl) (by kernel_rfl) ?_; (repeat (go_big_quiet_step (first | (go_at_call 56; with_reducible exact Calls.rg0 (cO.out _)) | (go_at_call 56; with_reducible exact Calls.rg0 (cT.out _)) | (go_at_call 70; with_reducible exact Calls.rg (cD.out _ _))))); refine wpQuiet_nil ?_)
              intro w3 he3
              have HE3 := Lib.hid (HBd.out.trans he3)
              clear he3 hEd b0 b1 a0 a1 y0 y1 y2 y3
              go_wp2_with fail
              refine (spec_l35Copy A1 n1 c1 ps w3 (hxb1.out.keep HE3.out) hnc hn1).mono ?_
              rintro e w4 ⟨g2, c2', rfl, he4, ho4⟩
              have HO4 := Lib.hid ho4
              have HE4 := Lib.hid he4
              have hs3 := HE3.out.size
              clear ho4 he4
              go_wp2_with fail
              go_ret2
              exact ⟨.slice (some ⟨g2, 0, none⟩) n1 c2', (by rw [HL.out, HF.out]; rfl), HE.out.trans (HE3.out.trans HE4.out), by rw [HL.out, HF.out]; simp only; rw [hl1.out]; exact own_weak HO4.out (by omega)⟩
            case false =>
              cases hDo : doorB ds x m.t
              case false =>
                rw [hDo] at cD
                have HG : Hid (goB H ds u m = false) := by
                  unfold Hid goB hallB hasDoorB
                  rw [hul'.out, HOo.out, hT, HJ.out, Int.toNat_natCast, ← HXu.out, hDo, Bool.and_false]; rfl
                clear hT hDo
                have HF : Hid (replayF H ds ps ps ms = (ps, false)) := by unfold Hid; rw [hz.out, HD.out, replayF, HG.out]; rfl
                have y0 := cell_regrown a0
                have y1 := cell_regrown a1
                have y2 := cell_regrown b0
                have y3 := cell_regrown b1
                have y4 := cell_regrown q0
                (refine wp_region_ext (by kernel_rfl) (by kernel_rfl) ?_; (repeat (go_big_quiet_step (first | (go_at_call 56; with_reducible exact Calls.rg0 (cO.out _)) | (go_at_call 56; with_reducible exact Calls.rg0 (cT.out _)) | (go_at_call 70; with_reducible exact Calls.rg (cD.out _ _))))); refine wpQuiet_nil ?_)
                intro w3 he3
                have HE3 := Lib.hid (HBd.out.trans he3)
                clear he3 hEd b0 b1 a0 a1 y0 y1 y2 y3
                go_wp2_with fail
                refine (spec_l35Copy A1 n1 c1 ps w3 (hxb1.out.keep HE3.out) hnc hn1).mono ?_
                rintro e w4 ⟨g2, c2', rfl, he4, ho4⟩
                have HO4 := Lib.hid ho4
                have HE4 := Lib.hid he4
                have hs3 := HE3.out.size
                clear ho4 he4
                go_wp2_with fail
                go_ret2
                exact ⟨.slice (some ⟨g2, 0, none⟩) n1 c2', (by rw [HL.out, HF.out]; rfl), HE.out.trans (HE3.out.trans HE4.out), by rw [HL.out, HF.out]; simp only; rw [hl1.out]; exact own_weak HO4.out (by omega)⟩
              case true =>
                rw [hDo] at cD
                have HG : Hid (goB H ds u m = true) := by
                  unfold Hid goB hallB hasDoorB
                  rw [hul'.out, HOo.out, hT, HJ.out, Int.toNat_natCast, ← HXu.out, hDo, hHB.out]; rfl
                have HF : Hid (replayF H ds ps ps ms = replayF H ds ps (u.set j m.t) (ms.drop (k + 1))) := by unfold Hid; rw [hz.out, HD.out, replayF, HG.out, HJ.out]; rfl
                clear hT hDo
                have Hb0 := Lib.hid b0
                have Hb1 := Lib.hid b1
                have y0 := cell_regrown a0
                have y1 := cell_regrown a1
                have y2 := cell_regrown b0
                have y3 := cell_regrown b1
                have y4 := cell_regrown q0
                (refine wp_region_ext (by kernel_rfl) (by kernel_rfl) ?_; (repeat (go_big_quiet_step (first | (go_at_call 56; with_reducible exact Calls.rg0 (cO.out _)) | (go_at_call 56; with_reducible exact Calls.rg0 (cT.out _)) | (go_at_call 70; with_reducible exact Calls.rg (cD.out _ _))))); refine wpQuiet_nil ?_)
                intro w3 he3
                have HE3 := Lib.hid (HBd.out.trans he3)
                have ho3 := own_keep HOd.out he3
                obtain ⟨g', hg', hbg, hblk⟩ := PBlk.of_own ho3 (by omega)
                injection hg' with hg'
                injection hg' with hg'
                subst hg'
                have HO3 := Lib.hid ho3
                clear q0 b0 b1 a0 a1 y0 y1 y2 y3 y4
                have q0 := hblk.cell (i := j) (by rw [hul.out]; exact hjn)
                have q1 := hblk.free j
                have q2 := hblk.lt
                have b0 := (he3.cellAt wr.heap.size (by omega) 0).trans Hb0.out
                have b1 := (he3.cellAt wr.heap.size (by omega) 1).trans Hb1.out
                clear he3 hblk ho3 hEd
                go_wp2_with fail
                go_roundw
                case rel => exact ⟨k + 1, u.set j m.t, by omega, by go_num, own_set HO3.out j m.t, by unfold Hid; rw [List.length_set]; exact hul.out, HF, HE3.out.setCell hbg _⟩
                case measure => simp [intOf]; omega
      · obtain rfl : k = n2 := by omega
        clear a0 a1
        go_wp2_with fail
        go_ret2
        have hF : replayF H ds ps ps ms = (u, true) := by rw [hz.out, drop_nil (by rw [hl2.out]; omega)]; rfl
        exact ⟨.slice (some ⟨g, 0, none⟩) n1 c', (by rw [HL.out, hF]; rfl), HE.out.trans HB.out, by rw [HL.out, hF]; simp only; rw [hul.out]; exact own_weak HO.out (by omega)⟩
end Go.Proofs.Ytcmbjkidgemdaaa
