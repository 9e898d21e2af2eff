/- Texts of one proof, laid one behind the other (QB); no condition but what stands at each theorem. -/
import Derived.Test.YtfmifllcbbfpoaaGreatDoorZJ
import Derived.Test.YtfmifllcbbfpoaaGreatDoorZN
import Derived.Test.YtfmifllcbbfpoaaGreatDoorZY
import Derived.Test.YtfmifllcbbfpoaaGreatDoorZZ
/- The law FnScenarios, walked; no condition but what stands at each theorem. -/
namespace Go.Proofs.YtfmifllcbbfpoaaGreatDoor
set_option linter.unusedSimpArgs false
set_option linter.unusedVariables false
open Go.RowKit Go.Sort
set_option maxRecDepth 100000 in
set_option maxHeartbeats 8000000 in
theorem law_FnScenarios (A : Option Addr) (n c : Nat) (bs : List UInt8) (w : World) (hx : Rd w 1 A n (bs.flatMap bencU)) (hM : Hid (∃ k, w.cell? ⟨0, 0, none⟩ = some (.int .i64 k))) :
    Calls Tryz.prog 5 #[.slice A n c] w fun e w' => e = .returned (.bool true) ∧ Ext w w' := by
  by_cases hbig : 1048576 < n
  case pos =>
    go_enter Tryz.func5, Tryz.ntmps5
    go_wp2_with (refine (laws_big A n c _).mono ?_; rintro e w1 ⟨he, rfl⟩; rw [decide_eq_true hbig] at he; subst he)
    go_ret
    exact ⟨rfl, Ext.refl _⟩
  case neg =>
  have hxb := rd_bytes hx
  have hbd := bytes_bd bs
  obtain ⟨xs, hxs⟩ : ∃ xs, xs = bs.map fun b => (b.toNat : Int) := ⟨_, rfl⟩
  rw [← hxs] at hxb hbd
  clear hxs hx
  have cD := Lib.hid (spec_DrawActs A n c xs w hxb hbd (by omega))
  have HXB := Lib.hid hxb
  have HBD := Lib.hid hbd
  have hn20 : n ≤ 1048576 := by omega
  clear hxb hbd
  go_enter Tryz.func5, Tryz.ntmps5
  go_wp2_with (go_at_call 9; refine (fun h : Hid _ => h.out) ?_)
  unfold Hid
  refine (laws_big A n c _).mono ?_
  rintro e w0 ⟨he, rfl⟩
  rw [decide_eq_false hbig] at he
  subst he
  go_wp2_with (go_at_call 10; refine (fun h : Hid _ => h.out) ?_)
  unfold Hid
  refine (cD.out).mono ?_
  rintro e w1 ⟨v, m, Aa, ca, ys, rfl, ho, hdm, hoa, hla, hma, he1⟩
  obtain ⟨HV, ⟨AV0, nV0, kV0⟩, ⟨AV1, nV1, kV1⟩, ⟨AV2, nV2, kV2⟩, ⟨AV3, nV3, kV3⟩, dV, ⟨AV4, nV4, kV4⟩⟩ := v
  simp only [MV.val, MV.cells]
  have hm := hdm.au.1
  have HRB := Lib.hid (run_facts (acts := ys) hm (by omega))
  obtain ⟨w2, hw2⟩ : ∃ w2, w2 = w1.alloc (.cells #[.int .i64 HV, .slice AV0 nV0 kV0, .slice AV1 nV1 kV1, .slice AV2 nV2 kV2, .slice AV3 nV3 kV3, .int .i64 dV, .slice AV4 nV4 kV4] 30) := ⟨_, rfl⟩
  have hE2 : Ext w1 w2 := by rw [hw2]; exact (Ext.refl _).alloc _
  have HBX : Hid (Blk w2 w1.heap.size 30 #[.int .i64 HV, .slice AV0 nV0 kV0, .slice AV1 nV1 kV1, .slice AV2 nV2 kV2, .slice AV3 nV3 kV3, .int .i64 dV, .slice AV4 nV4 kV4]) := Lib.hid (by rw [hw2]; exact Blk.new _ _ _)
  have HO2 := Lib.hid (ho.keep hE2)
  have HA2 := Lib.hid (own_keep hoa hE2)
  have HE2 := Lib.hid (he1.trans hE2)
  have HW2 := Lib.hid hw2
  have HMM := Lib.hid hm
  have HF := Lib.hid (fit_ok ho hm)
  clear hw2 hE2 ho hoa he1 hm hdm hma cD
  go_wp2_with (go_at_call 26; refine (fun h : Hid _ => h.out) ?_)
  unfold Hid
  rw [← HW2.out]
  refine (impl_RunActs (⟨HV, ⟨AV0, nV0, kV0⟩, ⟨AV1, nV1, kV1⟩, ⟨AV2, nV2, kV2⟩, ⟨AV3, nV3, kV3⟩, dV, ⟨AV4, nV4, kV4⟩⟩ : MV) m Aa ys.length ca ys w2 HO2.out.rd HF.out (Rd.of_own HA2.out) (Lib.hid (max_ext hM.out HE2.out))).mono ?_
  rintro e w3 ⟨v', o', hev, he3, ho3, hno3, -, -⟩
  obtain ⟨HX, ⟨AX0, nX0, kX0⟩, ⟨AX1, nX1, kX1⟩, ⟨AX2, nX2, kX2⟩, ⟨AX3, nX3, kX3⟩, dX, ⟨AX4, nX4, kX4⟩⟩ := v'
  simp only [MV.val, MV.cells] at hev
  subst hev
  obtain ⟨Al, cl, rfl, -⟩ := own_form hno3
  obtain ⟨w4, hw4⟩ : ∃ w4, w4 = w3.alloc (.cells #[.int .i64 HX, .slice AX0 nX0 kX0, .slice AX1 nX1 kX1, .slice AX2 nX2 kX2, .slice AX3 nX3 kX3, .int .i64 dX, .slice AX4 nX4 kX4] 30) := ⟨_, rfl⟩
  have hE4 : Ext w3 w4 := by rw [hw4]; exact (Ext.refl _).alloc _
  have HBX5 : Hid (Blk w4 w3.heap.size 30 #[.int .i64 HX, .slice AX0 nX0 kX0, .slice AX1 nX1 kX1, .slice AX2 nX2 kX2, .slice AX3 nX3 kX3, .int .i64 dX, .slice AX4 nX4 kX4]) := Lib.hid (by rw [hw4]; exact Blk.new _ _ _)
  have HO4 := Lib.hid (ho3.keep hE4)
  have HN4 := Lib.hid (own_keep hno3 hE4)
  have HE4 := Lib.hid (he3.trans hE4)
  have HW4 := Lib.hid hw4
  have HLL := Lib.hid (runL_lenB HRB.out)
  obtain ⟨nl, hnl⟩ : ∃ nl, nl = (runL m ys).length := ⟨_, rfl⟩
  rw [← hnl] at HN4 ⊢
  have HNL := Lib.hid hnl
  have hnl2 : nl = ys.length := by rw [hnl]; exact HLL.out
  have hm4 := Lib.hid (runM_ok HMM.out HRB.out)
  clear hw4 hE4 he3 ho3 hno3 hnl
  have B4 := HBX.out.keep HE4.out
  have b0 := B4.cellAt (i := 0) (by simp)
  have b1 := B4.cellAt (i := 1) (by simp)
  have b2 := B4.cellAt (i := 2) (by simp)
  have b3 := B4.cellAt (i := 3) (by simp)
  have b4 := B4.cellAt (i := 4) (by simp)
  have b5 := B4.cellAt (i := 5) (by simp)
  have b6 := B4.cellAt (i := 6) (by simp)
  simp only [List.getElem_toArray, List.getElem_cons_zero, List.getElem_cons_succ] at b0 b1 b2 b3 b4 b5 b6
  rw [HW4.out] at b0 b1 b2 b3 b4 b5 b6
  go_wp2_with (go_at_call 13; refine (fun h : Hid _ => h.out) ?_)
  unfold Hid
  rw [← HW4.out]
  refine (impl_MuseumOk (⟨HV, ⟨AV0, nV0, kV0⟩, ⟨AV1, nV1, kV1⟩, ⟨AV2, nV2, kV2⟩, ⟨AV3, nV3, kV3⟩, dV, ⟨AV4, nV4, kV4⟩⟩ : MV) m w4 (HO2.out.rd.keep HE4.out)).mono ?_
  rintro e w5 ⟨rfl, he5⟩
  rw [HMM.out]
  have HE5 := Lib.hid he5
  clear he5
  clear b0 b1 b2 b3 b4 b5 b6
  have B5 := HBX5.out.keep HE5.out
  have b0 := B5.cellAt (i := 0) (by simp)
  have b1 := B5.cellAt (i := 1) (by simp)
  have b2 := B5.cellAt (i := 2) (by simp)
  have b3 := B5.cellAt (i := 3) (by simp)
  have b4 := B5.cellAt (i := 4) (by simp)
  have b5 := B5.cellAt (i := 5) (by simp)
  have b6 := B5.cellAt (i := 6) (by simp)
  simp only [List.getElem_toArray, List.getElem_cons_zero, List.getElem_cons_succ] at b0 b1 b2 b3 b4 b5 b6
  go_wp2_with (go_at_call 13; refine (fun h : Hid _ => h.out) ?_)
  unfold Hid
  refine (impl_MuseumOk (⟨HX, ⟨AX0, nX0, kX0⟩, ⟨AX1, nX1, kX1⟩, ⟨AX2, nX2, kX2⟩, ⟨AX3, nX3, kX3⟩, dX, ⟨AX4, nX4, kX4⟩⟩ : MV) (runM m ys) w5 (HO4.out.rd.keep HE5.out)).mono ?_
  rintro e w6 ⟨rfl, he6⟩
  rw [hm4.out]
  have HE6 := Lib.hid he6
  clear he6
  clear b0 b1 b2 b3 b4 b5 b6
  subst hnl2
  go_wp2_with (go_at_call 27; refine (fun h : Hid _ => h.out) ?_)
  unfold Hid
  refine (impl_SampleMuseum _).mono ?_
  rintro e w7 ⟨v7, hev7, he7, ho7⟩
  obtain ⟨HS, ⟨AS0, nS0, kS0⟩, ⟨AS1, nS1, kS1⟩, ⟨AS2, nS2, kS2⟩, ⟨AS3, nS3, kS3⟩, dS, ⟨AS4, nS4, kS4⟩⟩ := v7
  simp only [MV.val, MV.cells] at hev7
  subst hev7
  have HE7 := Lib.hid he7
  have HO7 := Lib.hid ho7
  clear he7 ho7
  go_wp2_with (go_at_call 13; refine (fun h : Hid _ => h.out) ?_)
  unfold Hid
  refine (impl_MuseumOk (⟨HS, ⟨AS0, nS0, kS0⟩, ⟨AS1, nS1, kS1⟩, ⟨AS2, nS2, kS2⟩, ⟨AS3, nS3, kS3⟩, dS, ⟨AS4, nS4, kS4⟩⟩ : MV) sampleM w7 HO7.out.rd).mono ?_
  rintro e w8 ⟨rfl, he8⟩
  rw [sample_dm.au.1]
  have HE8 := Lib.hid he8
  clear he8
  go_wp2_with fail
  go_ret
  exact ⟨rfl, HE2.out.trans (HE4.out.trans (HE5.out.trans (HE6.out.trans (HE7.out.trans HE8.out))))⟩
end Go.Proofs.YtfmifllcbbfpoaaGreatDoor
