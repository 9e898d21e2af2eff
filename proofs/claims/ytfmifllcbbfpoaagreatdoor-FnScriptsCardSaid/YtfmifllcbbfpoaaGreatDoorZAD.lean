/- Texts of one proof, laid one behind the other (QF); no condition but what stands at each theorem. -/
import Derived.Test.YtfmifllcbbfpoaaGreatDoorZK
import Derived.Test.YtfmifllcbbfpoaaGreatDoorZO
import Derived.Test.YtfmifllcbbfpoaaGreatDoorZY
/- The law FnScripts, walked; no condition but what stands at each theorem. -/
namespace Go.Proofs.YtfmifllcbbfpoaaGreatDoor
set_option linter.unusedSimpArgs false
set_option linter.unusedVariables false
open Go.RowKit Go.Sort
theorem sv_flat (xs : List ByteArray) : sv xs = xs.flatMap senc := by
  induction xs with
  | nil => rfl
  | cons x r ih => rw [List.flatMap_cons, ← ih]; rfl
theorem run_factsF {m : GMuseum} {acts : List GAct} (hm : museumB m = true) (hl : acts.length ≤ 40) : runB m acts = true := by unfold runB; simp [hm, hl]
theorem script_size {x : ByteArray} {acts : List GAct} (h : scriptO x = some acts) : x.size ≤ 20000 := by
  unfold scriptO at h
  split at h
  · assumption
  · cases h
set_option maxRecDepth 100000 in
set_option maxHeartbeats 1000000 in
theorem laws_sameTexts (A : Option Addr) (n c : Nat) (A' : Option Addr) (n' c' : Nat) (xs : List ByteArray) (w : World) (hx : Rd w 1 A n (sv xs)) (hy : Rd w 1 A' n' (sv xs)) :
    Calls Tryz.prog 34 #[.slice A n c, .slice A' n' c'] w fun e w' => e = .returned (.bool true) ∧ Ext w w' := by
  rw [sv_flat] at hx hy
  have hn := hx.2.1
  obtain rfl : n = n' := by rw [← hx.len senc_len (by omega), ← hy.len senc_len (by omega)]
  have HX := Lib.hid hx
  have HY := Lib.hid hy
  clear hx hy
  go_enter Tryz.func34, Tryz.ntmps34
  go_wp2_with fail
  go_loopw [5] (fun i wr => ∃ (k : Nat), k ≤ n ∧ i = .int .i64 k ∧ Ext w wr) (fun i _ => n - (intOf i).toNat)
  case atStart => exact ⟨0, Nat.zero_le _, rfl, Ext.refl _⟩
  case round =>
    obtain ⟨k, hk, rfl, hb⟩ := hrel
    by_cases hlt : k < n
    · obtain ⟨b, off, y, rfl, hbs, hyk, h0⟩ := senc_at (HX.out.keep hb) hlt
      obtain ⟨b', off', y', rfl, hbs', hyk', h0'⟩ := senc_at (HY.out.keep hb) hlt
      rw [hyk] at hyk'
      injection hyk' with hyk'
      subst hyk'
      have HB := Lib.hid hb
      have k0 : (0 : Int) ≤ (k : Int) := by omega
      have k1 : (k : Int) < (n : Int) := by omega
      have z1 := cell_regrown h0
      have z2 := cell_regrown h0'
      clear hyk hb
      go_wp2_with fail
      (refine wp_region_ext (by kernel_rfl) (by kernel_rfl) ?_; (repeat (go_big_quiet_step (first | fail))); refine wpQuiet_nil ?_)
      intro w3 he3
      have HE3 := Lib.hid (HB.out.trans he3)
      clear he3 z1 z2 h0 h0'
      go_wp2_with fail
      go_roundw
      case rel => exact ⟨k + 1, by omega, by go_num, HE3.out⟩
      case measure => simp [intOf]; omega
    · go_wp2_with fail
      go_ret
      exact ⟨rfl, hb⟩
set_option maxRecDepth 100000 in
set_option maxHeartbeats 8000000 in
theorem law_FnScripts (A : Option Addr) (n c : Nat) (bs : List UInt8) (w : World) (hx : Rd w 1 A n (bs.flatMap bencU)) (htab : Hid (Lib.TabIs Tryz.prog w "internal/strconv.uint64pow10" .u64 Lib.pow10Tab)) (hM : Hid (∃ k, w.cell? ⟨0, 0, none⟩ = some (.int .i64 k))) :
    Calls Tryz.prog 7 #[.slice A n c] w fun e w' => e = .returned (.bool true) ∧ Ext w w' := by
  by_cases hbig : 1048576 < n
  case pos =>
    go_enter Tryz.func7, Tryz.ntmps7
    go_wp2_with (refine (laws_big A n c _).mono ?_; rintro e w1 ⟨he, rfl⟩; rw [decide_eq_true hbig] at he; subst he)
    go_ret
    exact ⟨rfl, Ext.refl _⟩
  case neg =>
  have hxb := rd_bytes hx
  have hbd := bytes_bd bs
  obtain ⟨xs, hxs⟩ : ∃ xs, xs = bs.map fun b => (b.toNat : Int) := ⟨_, rfl⟩
  rw [← hxs] at hxb hbd
  clear hxs hx
  have cD := Lib.hid (spec_DrawActs A n c xs w hxb hbd (by omega))
  have HXB := Lib.hid hxb
  have HBD := Lib.hid hbd
  have hn20 : n ≤ 1048576 := by omega
  clear hxb hbd
  go_enter Tryz.func7, Tryz.ntmps7
  go_wp2_with (go_at_call 9; refine (fun h : Hid _ => h.out) ?_)
  unfold Hid
  refine (laws_big A n c _).mono ?_
  rintro e w0 ⟨he, rfl⟩
  rw [decide_eq_false hbig] at he
  subst he
  go_wp2_with (go_at_call 10; refine (fun h : Hid _ => h.out) ?_)
  unfold Hid
  refine (cD.out).mono ?_
  rintro e w1 ⟨v, m, Aa, ca, ys, rfl, ho, hdm, hoa, hla, hma, he1⟩
  obtain ⟨HV, ⟨AV0, nV0, kV0⟩, ⟨AV1, nV1, kV1⟩, ⟨AV2, nV2, kV2⟩, ⟨AV3, nV3, kV3⟩, dV, ⟨AV4, nV4, kV4⟩⟩ := v
  simp only [MV.val, MV.cells]
  obtain ⟨w2, hw2⟩ : ∃ w2, w2 = w1.alloc (.cells #[.int .i64 HV, .slice AV0 nV0 kV0, .slice AV1 nV1 kV1, .slice AV2 nV2 kV2, .slice AV3 nV3 kV3, .int .i64 dV, .slice AV4 nV4 kV4] 30) := ⟨_, rfl⟩
  have hE2 : Ext w1 w2 := by rw [hw2]; exact (Ext.refl _).alloc _
  have HA2 := Lib.hid (Rd.of_own (own_keep hoa hE2))
  have HE2 := Lib.hid (he1.trans hE2)
  have HW2 := Lib.hid hw2
  have HSC : Hid (scOk ys = true) := Lib.hid (by
    unfold scOk
    rw [Bool.and_eq_true, List.all_eq_true]
    exact ⟨by simp; omega, hma⟩)
  have HSB := Lib.hid (script_back HSC.out)
  clear hw2 hE2 ho hoa he1 hdm hma cD
  have cS := Lib.hid (impl_ScriptText Aa ys.length ca ys w2 HA2.out (by omega) (Lib.hid (tab_ext htab.out HE2.out)))
  rw [HSC.out] at cS
  obtain ⟨X, hX⟩ : ∃ X, X = scT ys := ⟨_, rfl⟩
  rw [← hX] at cS HSB
  clear hX
  have hXs := script_size HSB.out
  have HOL : Hid (scriptL X = outL ys) := Lib.hid (by unfold scriptL; rw [HSB.out])
  have HBB : Hid (scriptB X = true) := Lib.hid (by unfold scriptB; rw [HSB.out]; rfl)
  go_wp2_with (go_at_call 30; refine (fun h : Hid _ => h.out) ?_)
  unfold Hid
  rw [← HW2.out]
  refine cS.out.mono ?_
  rintro e w3 ⟨rfl, he3⟩
  have HE3 := Lib.hid (HE2.out.trans he3)
  have HA3 := Lib.hid (HA2.out.keep he3)
  clear he3 cS
  go_wp2_with (go_at_call 31; refine (fun h : Hid _ => h.out) ?_)
  unfold Hid
  refine (impl_RunScript X w3 (by omega) (Lib.hid (tab_ext htab.out HE3.out)) (Lib.hid (max_ext hM.out HE3.out))).mono ?_
  rintro e w4 ⟨vo, hev, he4, ho4⟩
  rw [HBB.out] at hev
  rw [HOL.out] at ho4
  obtain ⟨Ao, co, rfl, -⟩ := own_form ho4
  obtain ⟨no, hno⟩ : ∃ no, no = (outL ys).length := ⟨_, rfl⟩
  rw [← hno] at hev ho4
  subst hev
  have HNO := Lib.hid hno
  have HRO := Lib.hid (Rd.of_own ho4)
  have HE4 := Lib.hid (HE3.out.trans he4)
  have HA4 := Lib.hid (HA3.out.keep he4)
  clear he4 ho4 hno
  go_wp2_with (go_at_call 27; refine (fun h : Hid _ => h.out) ?_)
  unfold Hid
  refine (impl_SampleMuseum w4).mono ?_
  rintro e w5 ⟨v1, rfl, he5, ho5⟩
  have HE5 := Lib.hid (HE4.out.trans he5)
  have HRO5 := Lib.hid (HRO.out.keep he5)
  have cR := Lib.hid (impl_RunActs v1 sampleM Aa ys.length ca ys w5 ho5.rd (sample_fit ho5) (HA4.out.keep he5) (Lib.hid (max_ext hM.out HE5.out)))
  clear he5 ho5
  go_wp2_with (go_at_call 26; refine (fun h : Hid _ => h.out) ?_)
  unfold Hid
  refine cR.out.mono ?_
  rintro e w6 ⟨v2, o2, hev, he6, hm6, ho6, -, -⟩
  obtain ⟨HX, ⟨AX0, nX0, kX0⟩, ⟨AX1, nX1, kX1⟩, ⟨AX2, nX2, kX2⟩, ⟨AX3, nX3, kX3⟩, dX, ⟨AX4, nX4, kX4⟩⟩ := v2
  simp only [MV.val, MV.cells] at hev
  subst hev
  have hvals := Lib.hid (runL_vals sampleM ys)
  obtain ⟨NL, hNL⟩ : ∃ NL, NL = runL sampleM ys := ⟨_, rfl⟩
  rw [← hNL] at ho6 hvals
  have hNL40 : NL.length ≤ 40 := by (have := runL_lenR sampleM ys; rw [← hNL] at this; exact this)
  have HNL := Lib.hid hNL
  clear hNL
  obtain ⟨Aq, cq, rfl, -⟩ := own_form ho6
  obtain ⟨w7, hw7⟩ : ∃ w7, w7 = w6.alloc (.cells #[.int .i64 HX, .slice AX0 nX0 kX0, .slice AX1 nX1 kX1, .slice AX2 nX2 kX2, .slice AX3 nX3 kX3, .int .i64 dX, .slice AX4 nX4 kX4] 30) := ⟨_, rfl⟩
  have he7 : Ext w6 w7 := by rw [hw7]; exact (Ext.refl _).alloc _
  have HB7 : Hid (Blk w7 w6.heap.size 30 #[.int .i64 HX, .slice AX0 nX0 kX0, .slice AX1 nX1 kX1, .slice AX2 nX2 kX2, .slice AX3 nX3 kX3, .int .i64 dX, .slice AX4 nX4 kX4]) := Lib.hid (by rw [hw7]; exact Blk.new _ _ _)
  have HM7 := Lib.hid (hm6.rd.keep he7)
  have HN7 := Lib.hid ((Rd.of_own ho6).keep he7)
  have hnl := HN7.out.2.1
  obtain ⟨w8, hw8⟩ : ∃ w8, w8 = w7.alloc (.cells #[] 9) := ⟨_, rfl⟩
  have he8 : Ext w7 w8 := by rw [hw8]; exact (Ext.refl _).alloc _
  have HE7 := Lib.hid (HE5.out.trans (he6.trans he7))
  have HRO7 := Lib.hid (HRO5.out.keep (he6.trans he7))
  have HE78 := Lib.hid he8
  have hw67 : w7.heap.size = w6.heap.size + 1 := by rw [hw7]; simp
  have HO8 : Hid (w8.ownsRow w7.heap.size 9 1 (.slice (some ⟨w6.heap.size + 1, 0, none⟩) 0 0) 0 []) := Lib.hid (by rw [← hw67, hw8]; exact own_empty w7 w7.heap.size 9 1 (Nat.le_refl _))
  have HW8 : Hid (w8 = (w6.alloc (.cells #[.int .i64 HX, .slice AX0 nX0 kX0, .slice AX1 nX1 kX1, .slice AX2 nX2 kX2, .slice AX3 nX3 kX3, .int .i64 dX, .slice AX4 nX4 kX4] 30)).alloc (.cells #[] 9)) := Lib.hid (by rw [hw8, hw7])
  clear hw7 hw8 he6 he7 he8 hm6 ho6 hw67 cR
  go_wp2_with fail
  rw [← HW8.out]
  go_loopw [11, 12] (fun o i wr => ∃ (k : Nat), k ≤ NL.length ∧ i = .int .i64 k ∧ Hid (wr.ownsRow w7.heap.size 9 1 o k (sv ((NL.take k).map itext))) ∧ Hid (Ext w7 wr)) (fun _ i _ => NL.length - (intOf i).toNat)
  case atStart => exact ⟨0, Nat.zero_le _, rfl, HO8, HE78⟩
  case round =>
    obtain ⟨k, hk, rfl, hown2, hb2⟩ := hrel
    by_cases hlt : k < NL.length
    · obtain ⟨bq, oq, z, hAq, hbq, hzk, p0⟩ := ienc_at (HN7.out.keep hb2.out) hlt
      subst hAq
      obtain ⟨hz0, hz1⟩ := hvals.out z (List.mem_of_getElem? hzk)
      have HT : Hid (sv ((NL.take (k + 1)).map itext) = sv ((NL.take k).map itext) ++ [.string (itext z)]) := Lib.hid (by rw [take_snoc hzk, List.map_append]; exact sv_snoc _ _)
      have hF := Lib.hid (impl_FormatInt z (by omega) (by omega) wr (Lib.hid (tab_ext htab.out (HE7.out.trans hb2.out))))
      obtain ⟨T, hTT⟩ : ∃ T, T = itext z := ⟨_, rfl⟩
      rw [← hTT] at HT hF
      clear hzk hTT
      go_wp2_with (go_at_call 32; refine (fun h : Hid _ => h.out) ?_)
      unfold Hid
      refine hF.out.mono ?_
      rintro e w9 ⟨rfl, he9⟩
      have HE9 := Lib.hid (hb2.out.trans he9)
      have HO9 := Lib.hid (own_keep hown2.out he9)
      clear he9 p0
      go_wp2_with (at_builtin; refine (fun h : Hid _ => h.out) ?_)
      unfold Hid
      refine append1 ei_SF rfl _ _ rfl w7.heap.size w9 _ _ k _ (by rfl) HO9.out [.string T] (by rfl) rfl (one_strF _) (by omega) HE9.out.size ?_
      intro v' wA hoA heA
      have HOA := Lib.hid hoA
      have HEA := Lib.hid (heA w7 HE9.out (Nat.le_refl _))
      clear hoA heA
      go_wp2_with fail
      go_roundw
      case rel => exact ⟨k + 1, by omega, by go_num, by unfold Hid; rw [HT.out]; exact HOA.out, HEA⟩
      case measure => simp [intOf]; omega
    · obtain ⟨kk, hkk⟩ : ∃ kk, kk = NL.length := ⟨_, rfl⟩
      obtain rfl : kk = k := by omega
      rw [List.take_of_length_le (by omega)] at hown2
      have HKK := Lib.hid hkk
      have hl40 : kk ≤ 40 := by omega
      have hb3 := HB7.out.keep hb2.out
      have y0 := hb3.cellAt (i := 0) (by simp)
      have y1 := hb3.cellAt (i := 1) (by simp)
      have y2 := hb3.cellAt (i := 2) (by simp)
      have y3 := hb3.cellAt (i := 3) (by simp)
      have y4 := hb3.cellAt (i := 4) (by simp)
      have y5 := hb3.cellAt (i := 5) (by simp)
      have y6 := hb3.cellAt (i := 6) (by simp)
      simp at y0 y1 y2 y3 y4 y5 y6
      have cF := Lib.hid (impl_FormatMuseum _ (runM sampleM ys) wr (HM7.out.keep hb2.out) (Lib.hid (tab_ext htab.out (HE7.out.trans hb2.out))))
      have hf33 := fmtL_lenR (runM sampleM ys)
      clear hkk hb3
      go_wp2_with (go_at_call 33; refine (fun h : Hid _ => h.out) ?_)
      unfold Hid
      refine cF.out.mono ?_
      rintro e w9 ⟨vf, rfl, he9, hof⟩
      obtain ⟨Af, cf, rfl, -⟩ := own_form hof
      have HE9 := Lib.hid (hb2.out.trans he9)
      have HO9 := Lib.hid (own_keep hown2.out he9)
      have HOF := Lib.hid hof
      clear he9 hof y0 y1 y2 y3 y4 y5 y6
      go_wp2_with (at_builtin; refine (fun h : Hid _ => h.out) ?_)
      unfold Hid
      refine appendRd ei_SF rfl _ _ rfl w7.heap.size w9 _ kk _ (by rfl) HO9.out Af (fmtL (runM sampleM ys)).length cf (sv (fmtL (runM sampleM ys))) (by rfl) (Rd.of_own HOF.out) (own_nilS HOF.out) (one_senc _) (by omega) HE9.out.size ?_
      intro v' wA hoA heA
      obtain ⟨nw, hnw⟩ : ∃ nw, nw = kk + (fmtL (runM sampleM ys)).length := ⟨_, rfl⟩
      rw [← hnw] at hoA
      obtain ⟨Aw, cw, rfl, -⟩ := own_form hoA
      have hsv : sv (NL.map itext) ++ sv (fmtL (runM sampleM ys)) = sv (outL ys) := by unfold outL; rw [sv_app, HNL.out]
      rw [hsv] at hoA
      have HRW := Lib.hid (Rd.of_own hoA)
      have hEA := heA w7 HE9.out (Nat.le_refl _)
      have HEA := Lib.hid (HE7.out.trans hEA)
      have HROA := Lib.hid (HRO7.out.keep hEA)
      clear hoA heA hEA hsv hnw
      go_wp2_with (go_at_call 34; refine (fun h : Hid _ => h.out) ?_)
      unfold Hid
      refine (laws_sameTexts Ao no co Aw nw cw (outL ys) wA HROA.out HRW.out).mono ?_
      rintro e wB ⟨rfl, heB⟩
      have HEB := Lib.hid (HEA.out.trans heB)
      clear heB
      go_wp2_with fail
      go_ret
      exact ⟨rfl, HEB.out⟩
end Go.Proofs.YtfmifllcbbfpoaaGreatDoor
