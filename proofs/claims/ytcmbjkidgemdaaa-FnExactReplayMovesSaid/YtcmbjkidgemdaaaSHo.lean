/- Contract of the program's ReplayMoves; no condition but what stands at each theorem. -/
import Derived.Test.YtcmbjkidgemdaaaSHn
namespace Go.Proofs.Ytcmbjkidgemdaaa
set_option linter.unusedSimpArgs false
set_option linter.unusedVariables false
open Go.RowKit Go.Sort
set_option maxRecDepth 100000 in
set_option maxHeartbeats 4000000 in
theorem impl_ReplayMoves (H : Int) (A : Option Addr) (n c : Nat) (ds : List GDoor) (A1 : Option Addr) (n1 c1 : Nat) (ps : List Int) (A2 : Option Addr) (n2 c2 : Nat) (ms : List GMove) (w : World) (hx : Rd w 2 A n (ds.flatMap GDoor.enc)) (hx1 : Rd w 1 A1 n1 (ps.flatMap ienc)) (hx2 : Rd w 4 A2 n2 (ms.flatMap GMove.enc)) (hnc : Hid (A1 = none → c1 = 0)) (hn1 : n1 ≤ 1048576) :
    Calls Try.prog 46 #[.agg #[.int .i64 H, .slice A n c], .slice A1 n1 c1, .slice A2 n2 c2] w (ListBool (replayL H ds ps ms).1 (replayL H ds ps ms).2 w) := by
  have hn2 := hx2.2.1
  have hl1 := Lib.hid (hx1.len ienc_len (by omega))
  have hl2 := Lib.hid (hx2.len GMove.len (by omega))
  obtain ⟨wb, hwb⟩ : ∃ wb, wb = w.alloc (.cells #[.int .i64 H, .slice A n c] 29) := ⟨_, rfl⟩
  obtain ⟨hE, hsb, a0, a1⟩ := box2 w _ _ _ wb hwb
  have HE := Lib.hid hE
  have Hwb := Lib.hid hwb
  have Ha0 := Lib.hid a0
  have Ha1 := Lib.hid a1
  have hxb := Lib.hid (hx.keep hE)
  have hxb1 := Lib.hid (hx1.keep hE)
  have hxb2 := Lib.hid (hx2.keep hE)
  have hbl : w.heap.size < wb.heap.size := by omega
  clear hE hwb a0 a1 hx hx1 hx2
  go_enter Try.func46, Try.ntmps46
  go_wp2_with (at_builtin; refine (fun h : Hid _ => h.out) ?_)
  unfold Hid
  rw [← Hwb.out]
  refine appendRdN ei_I rfl _ _ rfl wb.heap.size _ _ 0 [] (by rw [hsb]; rfl) (own_empty wb wb.heap.size 3 1 (Nat.le_refl _)) A1 n1 c1 (ps.flatMap ienc) (by rfl) (hxb1.out.alloc _) hnc.out (one_ienc _) (by omega) (by simp) (by intro h; cases h) ?_
  intro g c' w1
  rw [Nat.zero_add, List.nil_append]
  intro ho he
  have HO1 := Lib.hid ho
  have HE1 := Lib.hid (he wb ((Ext.refl wb).alloc _) (Nat.le_refl _))
  clear ho he
  have cP := Lib.hid (impl_PlacesOk H A n c ds A1 n1 c1 ps w1 (hxb.out.keep HE1.out) (hxb1.out.keep HE1.out))
  have a0 := (HE1.out.cellAt w.heap.size hbl 0).trans Ha0.out
  have a1 := (HE1.out.cellAt w.heap.size hbl 1).trans Ha1.out
  cases hok : (placesB H ds ps && decide (n2 ≤ 30))
  case false =>
    have HL : Hid (replayL H ds ps ms = (ps, false)) := by unfold Hid replayL; rw [hl2.out, hok]; rfl
    cases hP : placesB H ds ps
    case false =>
      rw [hP] at cP
      clear hok hP
      go_wp2_with fail
      refine cP.out.mono ?_
      rintro e w2 ⟨rfl, he2⟩
      have HE2 := Lib.hid (Ext.trans HE1.out he2)
      have HO2 := Lib.hid (own_keep HO1.out he2)
      clear he2 a0 a1
      go_wp2_with fail
      go_ret2
      exact ⟨.slice (some ⟨g, 0, none⟩) n1 c', (by rw [HL.out]; rfl), HE.out.trans HE2.out, by rw [HL.out, hl1.out]; exact own_weak HO2.out (by omega)⟩
    case true =>
      have h30 : ¬ n2 ≤ 30 := by rw [hP] at hok; simpa using hok
      rw [hP] at cP
      clear hok hP
      go_wp2_with fail
      refine cP.out.mono ?_
      rintro e w2 ⟨rfl, he2⟩
      have HE2 := Lib.hid (Ext.trans HE1.out he2)
      have HO2 := Lib.hid (own_keep HO1.out he2)
      clear he2 a0 a1
      go_wp2_with fail
      go_ret2
      exact ⟨.slice (some ⟨g, 0, none⟩) n1 c', (by rw [HL.out]; rfl), HE.out.trans HE2.out, by rw [HL.out, hl1.out]; exact own_weak HO2.out (by omega)⟩
  case true =>
    obtain ⟨hP, h30⟩ : placesB H ds ps = true ∧ n2 ≤ 30 := by simpa using hok
    have HL : Hid (replayL H ds ps ms = replayF H ds ps ps ms) := by unfold Hid replayL; rw [hl2.out, hok]; rfl
    rw [hP] at cP
    clear hok hP
    go_wp2_with fail
    refine cP.out.mono ?_
    rintro e w2 ⟨rfl, he2⟩
    have HE2 := Lib.hid (Ext.trans HE1.out he2)
    have HO2 := Lib.hid (own_keep HO1.out he2)
    clear he2 a0 a1
    go_wp2_with fail
    go_loopw [26] (fun i wr => ∃ (k : Nat) (u : List Int), k ≤ n2 ∧ i = .int .i64 k ∧ wr.ownsRow wb.heap.size 3 1 (.slice (some ⟨g, 0, none⟩) n1 c') n1 (u.flatMap ienc) ∧ Hid (u.length = n1) ∧ Hid (replayF H ds ps ps ms = replayF H ds ps u (ms.drop k)) ∧ Ext wb wr) (fun i _ => n2 - (intOf i).toNat)
    case atStart => exact ⟨0, ps, Nat.zero_le _, rfl, HO2.out, hl1, rfl, HE2.out⟩
    case round =>
      obtain ⟨k, u, hk, rfl, hown, hul, hz, hb⟩ := hrel
      have HO := Lib.hid hown
      have HB := Lib.hid hb
      have a0 := (hb.cellAt w.heap.size hbl 0).trans Ha0.out
      have a1 := (hb.cellAt w.heap.size hbl 1).trans Ha1.out
      have hbr := hb.size
      have m0 : wr.heap.size ≠ w.heap.size := by omega
      have l0 : w.heap.size < wr.heap.size := by omega
      by_cases hlt : k < n2
      · obtain ⟨b, off, m, rfl, hbs, hmk, p0, p1, p2, p3⟩ := GMove.at_ (hxb2.out.keep hb) hlt
        have HD := Lib.hid (drop_cons hmk)
        clear hmk hb hown
        go_wp2_with fail
        obtain ⟨wd, hwd⟩ : ∃ wd, wd = wr.alloc (.cells #[.int .i64 m.o, .int .i64 m.t, .int .i64 m.f, .int .i64 m.s] 49) := ⟨_, rfl⟩
        rw [← hwd]
        obtain ⟨hEd, hsd, b0, b1, b2, b3⟩ := box4 wr _ _ _ _ _ wd hwd
        have HBd := Lib.hid (HB.out.trans hEd)
        have HOd := Lib.hid (own_keep HO.out hEd)
        have cG := Lib.hid (impl_canGo H A n c ds (some ⟨g, 0, none⟩) n1 c' u m wd (hxb.out.keep HBd.out) (Rd.of_own HOd.out))
        clear hwd a0 a1
        have hsw : w.heap.size + 1 ≤ wb.heap.size := by omega
        cases hG : goB H ds u m
        case false =>
          rw [hG] at cG
          have HF : Hid (replayF H ds ps ps ms = (ps, false)) := by unfold Hid; rw [hz.out, HD.out, replayF, hG]; rfl
          clear hG
          refine cG.out.mono ?_
          rintro e w3 ⟨rfl, he3⟩
          have HE3 := Lib.hid (HBd.out.trans he3)
          clear he3 hEd b0 b1 b2 b3
          go_wp2_with (at_builtin; refine (fun h : Hid _ => h.out) ?_)
          unfold Hid
          refine appendRdN ei_I rfl _ _ rfl w3.heap.size _ _ 0 [] (by rfl) (own_empty w3 w3.heap.size 3 1 (Nat.le_refl _)) A1 n1 c1 (ps.flatMap ienc) (by rfl) ((hxb1.out.keep HE3.out).alloc _) hnc.out (one_ienc _) (by omega) (by simp) (by intro h; cases h) ?_
          intro g2 c2' w4
          rw [Nat.zero_add, List.nil_append]
          intro ho4 he4
          have HO4 := Lib.hid ho4
          have HE4 := Lib.hid (he4 w3 ((Ext.refl w3).alloc _) (Nat.le_refl _))
          have hs3 := HE3.out.size
          clear ho4 he4
          go_wp2_with fail
          go_ret2
          exact ⟨.slice (some ⟨g2, 0, none⟩) n1 c2', (by rw [HL.out, HF.out]; rfl), HE.out.trans (HE3.out.trans HE4.out), by rw [HL.out, HF.out, hl1.out]; exact own_weak HO4.out (by omega)⟩
        case true =>
          rw [hG] at cG
          obtain ⟨ho0, ho1⟩ := goB_obj hG
          obtain ⟨j, hj⟩ := Int.eq_ofNat_of_zero_le ho0
          have hjn : j < n1 := by (have := hul.out; omega)
          have HF : Hid (replayF H ds ps ps ms = replayF H ds ps (u.set j m.t) (ms.drop (k + 1))) := by unfold Hid; rw [hz.out, HD.out, replayF, hG, hj]; rfl
          have Hb0 : Hid (wd.cell? ⟨wr.heap.size, 0, none⟩ = some (.int .i64 (j : Int))) := by unfold Hid; rw [b0, hj]
          have Hb1 := Lib.hid b1
          clear hG ho0 ho1 hj b0 b1 b2 b3
          refine cG.out.mono ?_
          rintro e w3 ⟨rfl, he3⟩
          have HE3 := Lib.hid (HBd.out.trans he3)
          have ho3 := own_keep HOd.out he3
          obtain ⟨g', hg', hbg, hblk⟩ := PBlk.of_own ho3 (by omega)
          injection hg' with hg'
          injection hg' with hg'
          subst hg'
          have HO3 := Lib.hid ho3
          have q0 := hblk.cell (i := j) (by rw [hul.out]; exact hjn)
          have q1 := hblk.free j
          have q2 := hblk.lt
          have b0 := (he3.cellAt wr.heap.size (by omega) 0).trans Hb0.out
          have b1 := (he3.cellAt wr.heap.size (by omega) 1).trans Hb1.out
          clear he3 hblk ho3 hEd
          go_wp2_with fail
          go_roundw
          case rel => exact ⟨k + 1, u.set j m.t, by omega, by go_num, own_set HO3.out j m.t, by unfold Hid; rw [List.length_set]; exact hul.out, HF, HE3.out.setCell hbg _⟩
          case measure => simp [intOf]; omega
      · obtain rfl : k = n2 := by omega
        clear a0 a1
        go_wp2_with fail
        go_ret2
        have hF : replayF H ds ps ps ms = (u, true) := by rw [hz.out, drop_nil (by rw [hl2.out]; omega)]; rfl
        exact ⟨.slice (some ⟨g, 0, none⟩) n1 c', (by rw [HL.out, hF]; rfl), HE.out.trans HB.out, by rw [HL.out, hF]; simp only; rw [hul.out]; exact own_weak HO.out (by omega)⟩
end Go.Proofs.Ytcmbjkidgemdaaa
