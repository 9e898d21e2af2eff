/- Texts of one proof, laid one behind the other (SPa); no condition but what stands at each theorem. -/
import Derived.Test.YtfmifllcbbfpoaaGreatDoorZN
import Derived.Test.YtfmifllcbbfpoaaGreatDoorZR
/- Equality of rows of numbers, IsReplay of both sides; no condition but what stands at each theorem. -/
namespace Go.Proofs.YtfmifllcbbfpoaaGreatDoor
set_option linter.unusedSimpArgs false
set_option linter.unusedVariables false
open Go.RowKit Go.Sort
noncomputable def replB (m : GMuseum) (xs : List GAct) (ns : List Int) : Bool := runB m xs && decide (runL m xs = ns)
set_option maxRecDepth 100000 in
set_option maxHeartbeats 1000000 in
theorem shelf_EqualI (A : Option Addr) (n c : Nat) (xs : List Int) (A' : Option Addr) (n' c' : Nat) (ys : List Int) (w : World) (hx : Rd w 1 A n (xs.flatMap ienc)) (hy : Rd w 1 A' n' (ys.flatMap ienc)) :
    Calls Tryz.prog 70 #[.slice A n c, .slice A' n' c'] w fun e w' => e = .returned (.bool (decide (xs = ys))) ∧ Ext w w' := by
  have hn := hx.2.1
  have hl := Lib.hid (hx.len ienc_len (by omega))
  have hl' := Lib.hid (hy.len ienc_len (by omega))
  by_cases h : n = n'
  case neg =>
    have HF : Hid (decide (xs = ys) = false) := Lib.hid (by
      rw [decide_eq_false_iff_not]
      intro e
      have h1 := hl.out
      rw [e, hl'.out] at h1
      exact h h1.symm)
    have hnn : ((n : Int) == (n' : Int)) = false := by rw [beq_eq_false_iff_ne]; omega
    clear h hx hy
    go_enter Tryz.func70, Tryz.ntmps70
    go_wp2_with fail
    go_ret
    exact ⟨ret_bool HF.out.symm, Ext.refl _⟩
  subst h
  have HX := Lib.hid hx
  have HY := Lib.hid hy
  clear hx hy
  go_enter Tryz.func70, Tryz.ntmps70
  go_wp2_with fail
  go_loopw [13] (fun i wr => ∃ (k : Nat), k ≤ n ∧ i = .int .i64 k ∧ Hid (xs.take k = ys.take k) ∧ Ext w wr) (fun i _ => n - (intOf i).toNat)
  case atStart => exact ⟨0, Nat.zero_le _, rfl, by unfold Hid; simp, Ext.refl _⟩
  case round =>
    obtain ⟨k, hk, rfl, htk, hb⟩ := hrel
    by_cases hlt : k < n
    · obtain ⟨bp, op, x, rfl, hbp, hpk, q0⟩ := ienc_at (HX.out.keep hb) hlt
      obtain ⟨bq, oq, y, rfl, hbq, hqk, r0⟩ := ienc_at (HY.out.keep hb) hlt
      have HP1 := Lib.hid hpk
      have HQ1 := Lib.hid hqk
      have HBB := Lib.hid hb
      clear hpk hqk hb
      by_cases hxy : x = y
      · have hne : (x == y) = true := by simpa using hxy
        have HT : Hid (xs.take (k + 1) = ys.take (k + 1)) := Lib.hid (by rw [take_snoc HP1.out, take_snoc HQ1.out, htk.out, hxy])
        clear hxy
        go_wp2_with fail
        go_quiet (fail)
        go_wp2_with fail
        go_roundw
        case rel => exact ⟨k + 1, by omega, by go_num, HT, HBB.out.drewN _⟩
        case measure => simp [intOf]; omega
      · have hne : (x == y) = false := by simpa using hxy
        have HF : Hid (decide (xs = ys) = false) := Lib.hid (by
          rw [decide_eq_false_iff_not]
          intro h
          have h1 := HP1.out
          rw [h, HQ1.out] at h1
          injection h1 with h1
          exact hxy h1.symm)
        clear hxy
        go_wp2_with fail
        go_quiet (fail)
        go_wp2_with fail
        go_ret
        exact ⟨ret_bool HF.out.symm, HBB.out.drewN _⟩
    · obtain rfl : n = k := by omega
      have hfin := htk.out
      rw [List.take_of_length_le (by rw [hl.out]; omega), List.take_of_length_le (by rw [hl'.out]; omega)] at hfin
      have HF : Hid (decide (xs = ys) = true) := Lib.hid (by rw [hfin]; simp)
      clear hfin
      go_wp2_with fail
      go_ret
      exact ⟨ret_bool HF.out.symm, hb⟩
set_option maxRecDepth 100000 in
set_option maxHeartbeats 2000000 in
theorem impl_IsReplay (v : MV) (m : GMuseum) (A5 : Option Addr) (n5 c5 : Nat) (xs : List GAct) (A6 : Option Addr) (n6 c6 : Nat) (ns : List Int) (w : World) (hx : MRd w v m) (hf : MFit v) (hxa : Rd w 5 A5 n5 (xs.flatMap GAct.enc)) (hxn : Rd w 1 A6 n6 (ns.flatMap ienc)) (hM : Hid (∃ k, w.cell? ⟨0, 0, none⟩ = some (.int .i64 k))) :
    Calls Tryz.prog 28 #[v.val, .slice A5 n5 c5, .slice A6 n6 c6] w fun e w' => e = .returned (.bool (replB m xs ns)) ∧ Ext w w' := by
  have hn5 := hxa.2.1
  obtain ⟨wb, hwb⟩ : ∃ wb, wb = w.alloc (.cells v.cells 30) := ⟨_, rfl⟩
  have hbx := MBox.new hwb
  have hE : Ext w wb := by rw [hwb]; exact (Ext.refl w).alloc _
  have HX := Lib.hid (hx.keep hE)
  have HN := Lib.hid (hxn.keep hE)
  have hla := Lib.hid (hxa.len GAct.len (by omega))
  have HMX := Lib.hid (max_ext hM.out hE)
  have cM := Lib.hid (impl_MuseumOk v m wb HX.out)
  have cR := Lib.hid (fun W (he : Ext wb W) => impl_RunActs v m A5 n5 c5 xs W (HX.out.keep he) hf ((hxa.keep hE).keep he) (Lib.hid (max_ext HMX.out he)))
  obtain ⟨Hh, ⟨A0, n0, c0⟩, ⟨A1, n1, c1⟩, ⟨A2, n2, c2⟩, ⟨A3, n3, c3⟩, day, ⟨A4, n4, c4⟩⟩ := v
  have hH : Hh = m.H := hx.eH
  subst hH
  have hday : day = m.d := hx.ed
  subst hday
  have HE := Lib.hid hE
  have Hwb : Hid (wb = w.alloc (.cells #[.int .i64 m.H, .slice A0 n0 c0, .slice A1 n1 c1, .slice A2 n2 c2, .slice A3 n3 c3, .int .i64 m.d, .slice A4 n4 c4] 30)) := hwb
  have HB := Lib.hid hbx
  have hbl := hbx.lt
  clear hE hwb hbx hx hf hxa hxn
  show Calls Tryz.prog 28 #[.agg #[.int .i64 m.H, .slice A0 n0 c0, .slice A1 n1 c1, .slice A2 n2 c2, .slice A3 n3 c3, .int .i64 m.d, .slice A4 n4 c4], .slice A5 n5 c5, .slice A6 n6 c6] w _
  obtain ⟨b0, b1, b2, b3, b4, b5, b6⟩ := HB.out.cell
  simp only at b0 b1 b2 b3 b4 b5 b6
  go_enter Tryz.func28, Tryz.ntmps28
  go_wp2_with (go_at_call 13; refine (fun h : Hid _ => h.out) ?_)
  unfold Hid
  rw [← Hwb.out]
  refine cM.out.mono ?_
  rintro e w1 ⟨rfl, h1⟩
  have HE1 := Lib.hid h1
  clear h1 b0 b1 b2 b3 b4 b5 b6
  cases hm : museumB m
  case false =>
    have HF : Hid (replB m xs ns = false) := Lib.hid (by unfold replB runB; rw [hm]; rfl)
    clear hm
    go_wp2_with fail
    go_ret
    exact ⟨ret_bool HF.out.symm, HE.out.trans HE1.out⟩
  by_cases h40 : n5 ≤ 40
  case neg =>
    have h40' : (40 : Int) < (n5 : Int) := by omega
    have HF : Hid (replB m xs ns = false) := Lib.hid (by unfold replB runB; rw [hla.out]; simp [h40])
    clear hm h40
    go_wp2_with fail
    go_ret
    exact ⟨ret_bool HF.out.symm, HE.out.trans HE1.out⟩
  have h40' : ¬ (40 : Int) < (n5 : Int) := by omega
  have HF : Hid (replB m xs ns = decide (runL m xs = ns)) := Lib.hid (by unfold replB runB; rw [hm, hla.out]; simp [h40])
  clear hm h40
  obtain ⟨b0, b1, b2, b3, b4, b5, b6⟩ := (HB.out.keep HE1.out).cell
  simp only at b0 b1 b2 b3 b4 b5 b6
  go_wp2_with (go_at_call 26; refine (fun h : Hid _ => h.out) ?_)
  unfold Hid
  refine (cR.out w1 HE1.out).mono ?_
  rintro e w2 ⟨v2, o, hev, he2, -, ho2, -⟩
  obtain ⟨Hh2, ⟨A02, n02, c02⟩, ⟨A12, n12, c12⟩, ⟨A22, n22, c22⟩, ⟨A32, n32, c32⟩, day2, ⟨A42, n42, c42⟩⟩ := v2
  simp only [MV.val, MV.cells] at hev
  subst hev
  obtain ⟨Ao, co, rfl, -⟩ := own_form ho2
  obtain ⟨w3, hw3⟩ : ∃ w3, w3 = w2.alloc (.cells #[.int .i64 Hh2, .slice A02 n02 c02, .slice A12 n12 c12, .slice A22 n22 c22, .slice A32 n32 c32, .int .i64 day2, .slice A42 n42 c42] 30) := ⟨_, rfl⟩
  have he3 : Ext w2 w3 := by rw [hw3]; exact (Ext.refl _).alloc _
  have cE := Lib.hid (shelf_EqualI Ao (runL m xs).length co (runL m xs) A6 n6 c6 ns w3 ((Rd.of_own ho2).keep he3) (HN.out.keep (HE1.out.trans (he2.trans he3))))
  have HE3 := Lib.hid (HE1.out.trans (he2.trans he3))
  have HW3 := Lib.hid hw3
  clear he2 he3 ho2 hw3 b0 b1 b2 b3 b4 b5 b6
  go_wp2_with (go_at_call 70; refine (fun h : Hid _ => h.out) ?_)
  unfold Hid
  rw [← HW3.out]
  refine cE.out.mono ?_
  rintro e w4 ⟨rfl, he4⟩
  have HE4 := Lib.hid (HE3.out.trans he4)
  clear he4
  go_wp2_with fail
  go_ret
  exact ⟨ret_bool HF.out.symm, HE.out.trans HE4.out⟩
end Go.Proofs.YtfmifllcbbfpoaaGreatDoor
