/- Texts of one proof, laid one behind the other (QC); no condition but what stands at each theorem. -/
import Derived.Test.YtfmifllcbbfpoaaGreatDoorZN
import Derived.Test.YtfmifllcbbfpoaaGreatDoorZS
import Derived.Test.YtfmifllcbbfpoaaGreatDoorZU
import Derived.Test.YtfmifllcbbfpoaaGreatDoorZY
import Derived.Test.YtfmifllcbbfpoaaGreatDoorZZ
/- The law FnReplays, walked; no condition but what stands at each theorem. -/
namespace Go.Proofs.YtfmifllcbbfpoaaGreatDoor
set_option linter.unusedSimpArgs false
set_option linter.unusedVariables false
open Go.RowKit Go.Sort
set_option maxRecDepth 100000 in
set_option maxHeartbeats 8000000 in
theorem law_FnReplays (A : Option Addr) (n c : Nat) (bs : List UInt8) (w : World) (hx : Rd w 1 A n (bs.flatMap bencU)) (hM : Hid (∃ k, w.cell? ⟨0, 0, none⟩ = some (.int .i64 k))) :
    Calls Tryz.prog 6 #[.slice A n c] w fun e w' => e = .returned (.bool true) ∧ Ext w w' := by
  by_cases hbig : 1048576 < n
  case pos =>
    go_enter Tryz.func6, Tryz.ntmps6
    go_wp2_with (refine (laws_big A n c _).mono ?_; rintro e w1 ⟨he, rfl⟩; rw [decide_eq_true hbig] at he; subst he)
    go_ret
    exact ⟨rfl, Ext.refl _⟩
  case neg =>
  have hxb := rd_bytes hx
  have hbd := bytes_bd bs
  obtain ⟨xs, hxs⟩ : ∃ xs, xs = bs.map fun b => (b.toNat : Int) := ⟨_, rfl⟩
  rw [← hxs] at hxb hbd
  clear hxs hx
  have cD := Lib.hid (spec_DrawActs A n c xs w hxb hbd (by omega))
  have HXB := Lib.hid hxb
  have HBD := Lib.hid hbd
  have hn20 : n ≤ 1048576 := by omega
  clear hxb hbd
  go_enter Tryz.func6, Tryz.ntmps6
  go_wp2_with (go_at_call 9; refine (fun h : Hid _ => h.out) ?_)
  unfold Hid
  refine (laws_big A n c _).mono ?_
  rintro e w0 ⟨he, rfl⟩
  rw [decide_eq_false hbig] at he
  subst he
  go_wp2_with (go_at_call 10; refine (fun h : Hid _ => h.out) ?_)
  unfold Hid
  refine (cD.out).mono ?_
  rintro e w1 ⟨v, m, Aa, ca, ys, rfl, ho, hdm, hoa, hla, hma, he1⟩
  obtain ⟨HV, ⟨AV0, nV0, kV0⟩, ⟨AV1, nV1, kV1⟩, ⟨AV2, nV2, kV2⟩, ⟨AV3, nV3, kV3⟩, dV, ⟨AV4, nV4, kV4⟩⟩ := v
  simp only [MV.val, MV.cells]
  have hm := hdm.au.1
  have HRB := Lib.hid (run_facts (acts := ys) hm (by omega))
  obtain ⟨w2, hw2⟩ : ∃ w2, w2 = w1.alloc (.cells #[.int .i64 HV, .slice AV0 nV0 kV0, .slice AV1 nV1 kV1, .slice AV2 nV2 kV2, .slice AV3 nV3 kV3, .int .i64 dV, .slice AV4 nV4 kV4] 30) := ⟨_, rfl⟩
  have hE2 : Ext w1 w2 := by rw [hw2]; exact (Ext.refl _).alloc _
  have HBX : Hid (Blk w2 w1.heap.size 30 #[.int .i64 HV, .slice AV0 nV0 kV0, .slice AV1 nV1 kV1, .slice AV2 nV2 kV2, .slice AV3 nV3 kV3, .int .i64 dV, .slice AV4 nV4 kV4]) := Lib.hid (by rw [hw2]; exact Blk.new _ _ _)
  have HO2 := Lib.hid (ho.keep hE2)
  have HA2 := Lib.hid (own_keep hoa hE2)
  have HE2 := Lib.hid (he1.trans hE2)
  have HW2 := Lib.hid hw2
  have HMM := Lib.hid hm
  have HF := Lib.hid (fit_ok ho hm)
  clear hw2 hE2 ho hoa he1 hm hdm hma cD
  go_wp2_with (go_at_call 26; refine (fun h : Hid _ => h.out) ?_)
  unfold Hid
  rw [← HW2.out]
  refine (impl_RunActs (⟨HV, ⟨AV0, nV0, kV0⟩, ⟨AV1, nV1, kV1⟩, ⟨AV2, nV2, kV2⟩, ⟨AV3, nV3, kV3⟩, dV, ⟨AV4, nV4, kV4⟩⟩ : MV) m Aa ys.length ca ys w2 HO2.out.rd HF.out (Rd.of_own HA2.out) (Lib.hid (max_ext hM.out HE2.out))).mono ?_
  rintro e w3 ⟨v', o', hev, he3, ho3, hno3, -, -⟩
  obtain ⟨HX, ⟨AX0, nX0, kX0⟩, ⟨AX1, nX1, kX1⟩, ⟨AX2, nX2, kX2⟩, ⟨AX3, nX3, kX3⟩, dX, ⟨AX4, nX4, kX4⟩⟩ := v'
  simp only [MV.val, MV.cells] at hev
  subst hev
  obtain ⟨Al, cl, rfl, -⟩ := own_form hno3
  obtain ⟨w4, hw4⟩ : ∃ w4, w4 = w3.alloc (.cells #[.int .i64 HX, .slice AX0 nX0 kX0, .slice AX1 nX1 kX1, .slice AX2 nX2 kX2, .slice AX3 nX3 kX3, .int .i64 dX, .slice AX4 nX4 kX4] 30) := ⟨_, rfl⟩
  have hE4 : Ext w3 w4 := by rw [hw4]; exact (Ext.refl _).alloc _
  have HBX5 : Hid (Blk w4 w3.heap.size 30 #[.int .i64 HX, .slice AX0 nX0 kX0, .slice AX1 nX1 kX1, .slice AX2 nX2 kX2, .slice AX3 nX3 kX3, .int .i64 dX, .slice AX4 nX4 kX4]) := Lib.hid (by rw [hw4]; exact Blk.new _ _ _)
  have HO4 := Lib.hid (ho3.keep hE4)
  have HN4 := Lib.hid (own_keep hno3 hE4)
  have HE4 := Lib.hid (he3.trans hE4)
  have HW4 := Lib.hid hw4
  have HLL := Lib.hid (runL_lenB HRB.out)
  obtain ⟨nl, hnl⟩ : ∃ nl, nl = (runL m ys).length := ⟨_, rfl⟩
  rw [← hnl] at HN4 ⊢
  have HNL := Lib.hid hnl
  have hnl2 : nl = ys.length := by rw [hnl]; exact HLL.out
  have hm4 := Lib.hid (runM_ok HMM.out HRB.out)
  clear hw4 hE4 he3 ho3 hno3 hnl
  have HNL2 := Lib.hid hnl2
  clear hnl2
  have B4 := HBX.out.keep HE4.out
  have b0 := B4.cellAt (i := 0) (by simp)
  have b1 := B4.cellAt (i := 1) (by simp)
  have b2 := B4.cellAt (i := 2) (by simp)
  have b3 := B4.cellAt (i := 3) (by simp)
  have b4 := B4.cellAt (i := 4) (by simp)
  have b5 := B4.cellAt (i := 5) (by simp)
  have b6 := B4.cellAt (i := 6) (by simp)
  simp only [List.getElem_toArray, List.getElem_cons_zero, List.getElem_cons_succ] at b0 b1 b2 b3 b4 b5 b6
  rw [HW4.out] at b0 b1 b2 b3 b4 b5 b6
  have HNR : Hid (Rd w4 1 Al nl ((runL m ys).flatMap ienc)) := Lib.hid (Rd.of_own HN4.out)
  go_wp2_with (go_at_call 28; refine (fun h : Hid _ => h.out) ?_)
  unfold Hid
  rw [← HW4.out]
  refine (impl_IsReplay (⟨HV, ⟨AV0, nV0, kV0⟩, ⟨AV1, nV1, kV1⟩, ⟨AV2, nV2, kV2⟩, ⟨AV3, nV3, kV3⟩, dV, ⟨AV4, nV4, kV4⟩⟩ : MV) m Aa ys.length ca ys Al nl cl (runL m ys) w4 (HO2.out.rd.keep HE4.out) HF.out ((Rd.of_own HA2.out).keep HE4.out) HNR.out (Lib.hid (max_ext hM.out (HE2.out.trans HE4.out)))).mono ?_
  rintro e w5 ⟨heq, he5⟩
  rw [repl_self HRB.out] at heq
  subst heq
  have HE5 := Lib.hid (HE4.out.trans he5)
  have HN5 := Lib.hid (own_keep HN4.out he5)
  clear he5 HN4 HNR
  clear b0 b1 b2 b3 b4 b5 b6
  by_cases h0 : nl = 0
  · have HY0 : Hid (ys = []) := Lib.hid (List.eq_nil_of_length_eq_zero (by have := HNL2.out; omega))
    subst h0
    have B5 := HBX.out.keep HE5.out
    obtain ⟨w6, hw6⟩ : ∃ w6, w6 = w5.alloc (.cells #[.int .i64 1] 3) := ⟨_, rfl⟩
    have hE6 : Ext w5 w6 := by rw [hw6]; exact (Ext.refl _).alloc _
    have HR6 : Hid (Rd w6 1 (some ⟨w5.heap.size, 0, none⟩) 1 (([1] : List Int).flatMap ienc)) := Lib.hid (rd_blk (by rw [hw6]; exact Blk.new _ _ _) (by rfl) (by unfold maxLen; omega) (by rfl))
    have HE6 := Lib.hid (HE5.out.trans hE6)
    have HW6 := Lib.hid hw6
    clear hw6 hE6
    have b0 := B5.cellAt (i := 0) (by simp)
    have b1 := B5.cellAt (i := 1) (by simp)
    have b2 := B5.cellAt (i := 2) (by simp)
    have b3 := B5.cellAt (i := 3) (by simp)
    have b4 := B5.cellAt (i := 4) (by simp)
    have b5 := B5.cellAt (i := 5) (by simp)
    have b6 := B5.cellAt (i := 6) (by simp)
    simp only [List.getElem_toArray, List.getElem_cons_zero, List.getElem_cons_succ] at b0 b1 b2 b3 b4 b5 b6
    go_wp2_with (go_at_call 28; refine (fun h : Hid _ => h.out) ?_)
    unfold Hid
    rw [← HW6.out]
    refine (impl_IsReplay (⟨HV, ⟨AV0, nV0, kV0⟩, ⟨AV1, nV1, kV1⟩, ⟨AV2, nV2, kV2⟩, ⟨AV3, nV3, kV3⟩, dV, ⟨AV4, nV4, kV4⟩⟩ : MV) m Aa ys.length ca ys (some ⟨w5.heap.size, 0, none⟩) 1 1 [1] w6 (HO2.out.rd.keep HE6.out) HF.out ((Rd.of_own HA2.out).keep HE6.out) HR6.out (Lib.hid (max_ext hM.out (HE2.out.trans HE6.out)))).mono ?_
    rintro e w7 ⟨heq, he7⟩
    rw [repl_one HY0.out] at heq
    subst heq
    have HE7 := Lib.hid he7
    clear he7
    go_wp2_with fail
    go_ret
    exact ⟨rfl, HE2.out.trans (HE6.out.trans HE7.out)⟩
  · have hn0 : ((nl : Int) == 0) = false := by simp; omega
    have hn1 : ¬ (nl : Int) = 0 := by omega
    go_wp2_with (go_at_call 29; refine (fun h : Hid _ => h.out) ?_)
    unfold Hid
    refine (spec_DrawPlaces A n c xs w5 (HXB.out.keep (HE2.out.trans HE5.out)) HBD.out hn20).mono ?_
    rintro e w6 ⟨vp, ps, rfl, he6, hop, hpl, hpm⟩
    obtain ⟨Ap, cp, rfl, -⟩ := own_form hop
    rw [hpl] at hop ⊢
    have HE6 := Lib.hid (HE5.out.trans he6)
    have HN6 := Lib.hid (own_keep HN5.out he6)
    clear he6 HN5
    obtain ⟨bp, op, x0, hAp, -, hx0, p0⟩ := ienc_at (Rd.of_own hop) (show 0 < 12 by omega)
    subst hAp
    simp only [Nat.add_zero] at p0
    have hxb := hpm x0 (List.mem_of_getElem? hx0)
    obtain ⟨xn, rfl⟩ := Int.eq_ofNat_of_zero_le hxb.1
    obtain ⟨kk, hkk⟩ : ∃ kk, kk = xn % nl := ⟨_, rfl⟩
    have hkl : kk < nl := by rw [hkk]; exact Nat.mod_lt _ (by omega)
    have hm2 : (xn : Int).tmod (nl : Int) = (kk : Int) := by rw [hkk]; rfl
    have hrem : ∀ W : World, (binOp .rem 3 (.int .i64 (xn : Int)) (.int .i64 (nl : Int))).run Tryz.prog W = .ok (.int .i64 (kk : Int)) W := fun W => by
      rw [binOp_rem]
      unfold Op.intDiv
      rw [if_neg hn1, hm2]
      rfl
    have hm3 : (xn : Int) % (nl : Int) = (kk : Int) := by rw [hkk]; rfl
    rcases own_block HN6.out with ⟨-, h0', -⟩ | ⟨gl, cur, rfl, hgb, -, -, -, -, -⟩
    · exact absurd h0' h0
    obtain ⟨z, hzk, q0⟩ := ienc_at' (Rd.of_own HN6.out) hkl
    simp only [Nat.zero_add] at q0
    have hzv := runL_valsR m ys z (List.mem_of_getElem? hzk)
    have hzw : wrap64 (z + 1) = z + 1 := IntWalk.wrap64_in _ ⟨by omega, by omega⟩
    have hzw2 : IntKind.i64.wrap (z + 1) = z + 1 := IntWalk.i64_in _ (by omega)
    have hk0 : (0 : Int) ≤ (kk : Int) := by omega
    have hk1 : (kk : Int) < (nl : Int) := by omega
    have hlt6 := (HN6.out.lt gl rfl).2
    have hfr : ∀ i, w6.frozen? ⟨gl, i, none⟩ = false := own_free HN6.out
    have HZK := Lib.hid hzk
    have HHK := Lib.hid hkk
    clear hop hpl hpm hx0 hxb hzk hzv hkk
    go_upto_region 12 with fail
    obtain ⟨w7, hw7⟩ : ∃ w7, w7 = w6.setCell ⟨gl, kk, none⟩ (.int .i64 (z + 1)) := ⟨_, rfl⟩
    have hE7 : Ext w2 w7 := by rw [hw7]; exact HE6.out.setCell hgb _
    have HR7 : Hid (Rd w7 1 (some ⟨gl, 0, none⟩) nl (((runL m ys).set kk (z + 1)).flatMap ienc)) := Lib.hid (Rd.of_own (by rw [hw7]; exact own_setG HN6.out kk (z + 1)))
    have HW7 := Lib.hid hw7
    have HE7 := Lib.hid hE7
    rw [← hw7]
    clear hw7 hE7 q0 p0 hfr
    have B7 := HBX.out.keep HE7.out
    have b0 := B7.cellAt (i := 0) (by simp)
    have b1 := B7.cellAt (i := 1) (by simp)
    have b2 := B7.cellAt (i := 2) (by simp)
    have b3 := B7.cellAt (i := 3) (by simp)
    have b4 := B7.cellAt (i := 4) (by simp)
    have b5 := B7.cellAt (i := 5) (by simp)
    have b6 := B7.cellAt (i := 6) (by simp)
    simp only [List.getElem_toArray, List.getElem_cons_zero, List.getElem_cons_succ] at b0 b1 b2 b3 b4 b5 b6
    go_wp2_with (go_at_call 28; refine (fun h : Hid _ => h.out) ?_)
    unfold Hid
    refine (impl_IsReplay (⟨HV, ⟨AV0, nV0, kV0⟩, ⟨AV1, nV1, kV1⟩, ⟨AV2, nV2, kV2⟩, ⟨AV3, nV3, kV3⟩, dV, ⟨AV4, nV4, kV4⟩⟩ : MV) m Aa ys.length ca ys (some ⟨gl, 0, none⟩) nl cl ((runL m ys).set kk (z + 1)) w7 (HO2.out.rd.keep HE7.out) HF.out ((Rd.of_own HA2.out).keep HE7.out) HR7.out (Lib.hid (max_ext hM.out (HE2.out.trans HE7.out)))).mono ?_
    rintro e w8 ⟨heq, he8⟩
    rw [repl_changed HZK.out] at heq
    subst heq
    have HE8 := Lib.hid he8
    clear he8
    go_wp2_with fail
    go_ret
    exact ⟨rfl, HE2.out.trans (HE7.out.trans HE8.out)⟩
end Go.Proofs.YtfmifllcbbfpoaaGreatDoor
