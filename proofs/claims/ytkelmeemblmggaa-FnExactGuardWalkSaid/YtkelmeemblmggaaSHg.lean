/- Contract of l23Distances; no condition but what stands at each theorem. -/
import Derived.Test.YtkelmeemblmggaaSHf
namespace Go.Proofs.Ytkelmeemblmggaa
set_option linter.unusedSimpArgs false
set_option linter.unusedVariables false
open Go.RowKit Go.Sort
theorem filled_set {h k : Nat} (hk : k < h) : (filled h k).set k (-1) = filled h (k + 1) := by
  obtain ⟨m, hm⟩ : ∃ m, h - k = m + 1 := ⟨h - k - 1, by omega⟩
  have h2 : h - (k + 1) = m := by omega
  unfold filled
  rw [hm, h2, List.set_append_right _ _ (by simp), List.replicate_succ, List.length_replicate, Nat.sub_self, List.set_cons_zero, List.replicate_succ', List.append_assoc]
  rfl
set_option maxRecDepth 100000 in
set_option maxHeartbeats 4000000 in
theorem spec_l23Distances (h : Nat) (A : Option Addr) (n c : Nat) (ds : List GDoor) (a : Nat) (w : World) (hx : Rd w 2 A n (ds.flatMap GDoor.enc)) (h1 : 1 ≤ h) (h7 : h ≤ 7) (ha : a < h) :
    Calls Try.prog 72 #[.agg #[.int .i64 h, .slice A n c], .int .i64 a] w fun e w' => ∃ g, e = .returned (.slice (some ⟨g, 0, none⟩) h h) ∧ Ext w w' ∧ w.heap.size ≤ g ∧ IBlk w' g 3 (bfsAll ds h a).d := by
  obtain ⟨wb, hwb⟩ : ∃ wb, wb = w.alloc (.cells #[.int .i64 (h : Int), .slice A n c] 24) := ⟨_, rfl⟩
  have H := hbox_of hwb hx
  have HE : Hid (Ext w wb) := by unfold Hid; rw [hwb]; exact (Ext.refl w).alloc _
  have hsb : wb.heap.size = w.heap.size + 1 := by rw [hwb]; simp
  have Hwb := Lib.hid hwb
  obtain ⟨cl, hcl⟩ : ∃ cl, cl = (filled h 0).map (Value.int .i64) := ⟨_, rfl⟩
  have hmk := mk_int h (by omega)
  rw [← filled_zero, ← hcl] at hmk
  have HI0 : Hid (IBlk (wb.alloc (.cells cl.toArray 3)) wb.heap.size 3 (filled h 0)) := by unfold Hid; rw [hcl]; exact Blk.new _ _ _
  obtain ⟨gD, hgD⟩ : ∃ gD, gD = wb.heap.size := ⟨_, rfl⟩
  have hgDw : w.heap.size < gD := by omega
  have HE0 := Lib.hid ((Ext.refl wb).alloc (.cells cl.toArray 3))
  have k0 := H.k0
  have HH := Lib.hid H
  have HSb := Lib.hid hsb
  have HgD := Lib.hid hgD
  rw [← hgD] at HI0
  clear hwb hcl H hsb hx hgD
  go_enter Try.func72, Try.ntmps72
  go_wp2_with fail
  rw [← Hwb.out, show w.heap.size + 1 = gD by rw [HgD.out, HSb.out]]
  clear hmk
  have hgDb : wb.heap.size ≤ gD := by rw [HgD.out]; exact Nat.le_refl _
  have hwb1 : w.heap.size < wb.heap.size := by rw [HSb.out]; omega
  go_loopw [6] (fun i wr => ∃ k : Nat, k ≤ h ∧ i = .int .i64 k ∧ IBlk wr gD 3 (filled h k) ∧ Ext wb wr) (fun i _ => h - (intOf i).toNat)
  case atStart => exact ⟨0, Nat.zero_le _, rfl, HI0.out, HE0.out⟩
  case round =>
    obtain ⟨k, hk, rfl, hI, hb⟩ := hrel
    have r0 := (hb.cellAt w.heap.size hwb1 0).trans k0
    have hgl := hI.lt
    have m0 : gD ≠ w.heap.size := by omega
    by_cases hlt : k < h
    · have cF := hI.cell (i := k) (by rw [filled_len hk]; exact hlt)
      have fF := hI.free k
      have hset : (filled h k).set k (-1) = filled h (k + 1) := filled_set hlt
      have HI' : Hid (IBlk (wr.setCell ⟨gD, k, none⟩ (.int .i64 (-1))) gD 3 (filled h (k + 1))) := by unfold Hid; rw [← hset]; exact hI.set k (-1)
      have HB' : Hid (Ext wb (wr.setCell ⟨gD, k, none⟩ (.int .i64 (-1)))) := hb.setCell hgDb _
      obtain ⟨vv, hvv⟩ : ∃ vv, vv = (filled h k).getD k 0 := ⟨_, rfl⟩
      rw [← hvv] at cF
      clear hset hI hb hvv
      go_wp2_with fail
      go_roundw
      case rel => exact ⟨k + 1, by omega, by go_num, HI'.out, HB'.out⟩
      case measure => simp [intOf]; omega
    · obtain rfl : k = h := by omega
      rw [filled_all] at hI
      have cF := hI.cell (i := a) (by simpa using ha)
      have fF := hI.free a
      obtain ⟨vv, hvv⟩ : ∃ vv, vv = (List.replicate k (-1 : Int)).getD a 0 := ⟨_, rfl⟩
      rw [← hvv] at cF
      have HI1 := Lib.hid hI
      have HB1 := Lib.hid hb
      clear hvv hI hb
      go_wp2_with fail
      obtain ⟨w3, hw3⟩ : ∃ w3, w3 = wr.setCell ⟨gD, a, none⟩ (.int .i64 0) := ⟨_, rfl⟩
      rw [← hw3]
      have hs3 : wr.heap.size = w3.heap.size := by rw [hw3]; simp [World.setCell]
      rw [hs3]
      have hI3 : IBlk w3 gD 3 (bs0 k a).d := by rw [hw3]; exact HI1.out.set a 0
      have hE3 : Ext wb w3 := by rw [hw3]; exact HB1.out.setCell hgDb _
      have hg3 := hI3.lt
      have HQ := Lib.hid (QRow.one w3 wb.heap.size [gD] 3 (a : Int) hE3.size (by intro x hx; simp at hx; omega))
      have HI4 := Lib.hid (hI3.keep ((Ext.refl w3).alloc (.cells #[.int .i64 (a : Int)] 3)))
      have HE4 := Lib.hid (hE3.alloc (.cells #[.int .i64 (a : Int)] 3))
      have HBI := Lib.hid (binv0 ha)
      clear hw3 hs3 hI3 hE3 cF fF r0
      go_loopw [7, 8] (fun qv kv wi => ∃ (i : Nat) (S : BS), i ≤ S.q.length ∧ kv = .int .i64 i ∧ QRow wi wb.heap.size [gD] 3 qv S.q ∧ IBlk wi gD 3 S.d ∧ Hid (BInv a k S) ∧ Hid (bfsAll ds k a = bfs ds k (k - i) i S) ∧ Ext wb wi) (fun _ kv _ => k - (intOf kv).toNat)
      case atStart => exact ⟨0, bs0 k a, Nat.zero_le _, rfl, HQ.out, HI4.out, HBI.out, rfl, HE4.out⟩
      case round =>
        obtain ⟨wo, rfl⟩ : ∃ wo : World, wo = wr := ⟨_, rfl⟩
        obtain ⟨i, S, hi, rfl, hq, hI, hbi, hz, hb'⟩ := hrel
        have hqh := hbi.out.qle
        obtain ⟨g, off, cap, rfl, hbg, hng, hgl', hcell⟩ := hq.form
        by_cases hiq : i < S.q.length
        · have hSi : S.q.getD i 0 = S.q[i] := by simp [hiq]
          obtain ⟨p, hp, hxp, hfp⟩ := hbi.out.qin (S.q.getD i 0) (by rw [hSi]; exact List.getElem_mem hiq)
          have r0 := (hb'.cellAt w.heap.size hwb1 0).trans k0
          have HQo := Lib.hid hq
          have HIo := Lib.hid hI
          have HEo := Lib.hid hb'
          have Hxp := Lib.hid hxp
          clear hSi hxp hq hI hb' hcell r0
          go_wp2_with fail
          go_loopw [7, 9] (fun qv jv wi => ∃ (j : Nat) (S' : BS), j ≤ k ∧ jv = .int .i64 j ∧ QRow wi wb.heap.size [gD] 3 qv S'.q ∧ IBlk wi gD 3 S'.d ∧ Hid (BInv a k S') ∧ Hid (S' = (List.range j).foldl (visB ds (p : Int)) S) ∧ Hid (S'.q.getD i 0 = (p : Int)) ∧ i < S'.q.length ∧ Hid (0 ≤ S'.f.getD p 0) ∧ Ext wb wi) (fun _ jv _ => k - (intOf jv).toNat)
          case atStart => exact ⟨0, S, Nat.zero_le _, rfl, HQo.out, HIo.out, hbi.out, rfl, Hxp.out, hiq, hfp, HEo.out⟩
          case round =>
            obtain ⟨j, S', hj, rfl, hq', hI', hbi', hS', hxp', hlt', hfp', hE'⟩ := hrel
            have r0 := (hE'.cellAt w.heap.size hwb1 0).trans k0
            have r1 := (hE'.cellAt w.heap.size hwb1 1).trans HH.out.k1
            have hwr := hE'.size
            by_cases hjl : j < k
            · have hl' : S'.d.length = k := hbi'.out.ld
              have cD := hI'.cell (i := j) (by rw [hl']; exact hjl)
              have fD := hI'.free j
              have cP := hI'.cell (i := p) (by rw [hl']; exact hp)
              obtain ⟨g', off', cap', rfl, hbg', hng', hgl', hcell'⟩ := hq'.form
              have cQ := hcell' i hlt'
              rw [hxp'.out] at cQ
              obtain ⟨dv, hdv⟩ : ∃ dv, dv = S'.d.getD j 0 := ⟨_, rfl⟩
              obtain ⟨dp, hdp⟩ : ∃ dp, dp = S'.d.getD p 0 := ⟨_, rfl⟩
              rw [← hdv] at cD
              rw [← hdp] at cP
              have hdpb : 0 ≤ dp ∧ dp < 8 := by
                have h1 := hbi'.out.iff_ p hp
                have h2 := hbi'.out.dlt_ p hp hfp'.out
                have h3 := hbi'.out.qle
                have h4 := hfp'.out
                omega
              obtain ⟨hdp0, hdp8⟩ := hdpb
              have hgDl := hI'.lt
              have hqk : S'.q.length ≤ 7 := by have := hbi'.out.qle; omega
              have e0 := cell_regrown cD
              have e1 := cell_regrown cQ
              have e2 := cell_regrown r0
              have e3 := cell_regrown r1
              have cC := fun (d : Nat) (os : Array Obj) => spec_l23Door (k : Int) A n c ds (j : Int) (p : Int) _ ((HH.out.rd.keep hE').keep (ext_rg wr d os))
              have hsn : Hid ((List.range (j + 1)).foldl (visB ds (p : Int)) S = visB ds (p : Int) S' j) := by
                unfold Hid; rw [List.range_succ, List.foldl_append, ← hS'.out]; rfl
              have hbv := hbi'.out.vis hp hfp'.out hjl
              have hiffj := Lib.hid (hbi'.out.iff_ j hjl)
              have HDV := Lib.hid hdv
              have HDPd := Lib.hid hdp
              have HQ' := Lib.hid hq'
              have HI' := Lib.hid hI'
              have HE' := Lib.hid hE'
              have HBV := Lib.hid hbv
              have hng1 := Lib.hid (hng' gD (by simp))
              have hcom : Hid (doorB ds (p : Int) j = doorB ds j (p : Int)) := doorB_comm _ _ _
              clear hdv hdp hq' hI' hE' hbv hl' hcell' hng'
              by_cases hneg : dv < 0
              case neg =>
                have hvis : Hid (visB ds (p : Int) S' j = S') := by
                  unfold Hid visB vis
                  have : ¬ S'.f.getD j 0 < 0 := by rw [hiffj.out, ← HDV.out]; exact hneg
                  rw [if_neg this]; split <;> rfl
                have hneg2 : decide (dv < 0) = false := decide_eq_false hneg
                clear cC e0 e1 e2 e3
                go_wp2_with fail
                go_quiet (fail)
                go_wp2_with fail
                go_roundw
                case rel => exact ⟨j + 1, S', by omega, by go_num, HQ'.out.keep ((Ext.refl wr).drewN _), HI'.out.keep ((Ext.refl wr).drewN _), hbi'.out, by unfold Hid; rw [hsn.out, hvis.out], hxp'.out, hlt', hfp'.out, HE'.out.drewN _⟩
                case measure => simp [intOf]; omega
              cases hdo : doorB ds (j : Int) (p : Int)
              case false =>
                have hvis : Hid (visB ds (p : Int) S' j = S') := by unfold Hid visB; rw [hcom.out, hdo]; rfl
                rw [hdo] at cC
                clear hdo
                go_wp2_with fail
                (refine wp_region_ext (by kernel_rfl) (by kernel_rfl) ?_; (repeat (go_big_quiet_step (first | (go_at_call 45; with_reducible exact Calls.rg (cC _ _))))); refine wpQuiet_nil ?_)
                intro w6 hb6
                go_wp2_with fail
                go_roundw
                case rel => exact ⟨j + 1, S', by omega, by go_num, HQ'.out.keep hb6, HI'.out.keep hb6, hbi'.out, by unfold Hid; rw [hsn.out, hvis.out], hxp'.out, hlt', hfp'.out, HE'.out.trans hb6⟩
                case measure => simp [intOf]; omega
              have hvis : Hid (visB ds (p : Int) S' j = ⟨S'.q ++ [(j : Int)], S'.f.set j (p : Int), S'.d.set j (dp + 1)⟩) := by
                unfold Hid visB vis
                rw [hcom.out, hdo, if_pos rfl, if_pos (by rw [hiffj.out, ← HDV.out]; exact hneg), Int.toNat_natCast, ← HDPd.out]
              have hvis2 : Hid (visB ds (p : Int) S' j = vis (p : Int) S' j) := by unfold Hid visB; rw [hcom.out, hdo]; rfl
              rw [hdo] at cC
              clear hdo
              go_wp2_with fail
              (refine wp_region_ext (by kernel_rfl) (by kernel_rfl) ?_; (repeat (go_big_quiet_step (first | (go_at_call 45; with_reducible exact Calls.rg (cC _ _))))); refine wpQuiet_nil ?_)
              intro w6 hb6
              clear e0 e1 e2 e3 cC r0 r1
              have cD6 := (hb6.cellAt gD hgDl j).trans cD
              have cP6 := (hb6.cellAt gD hgDl p).trans cP
              have cQ6 := (hb6.cellAt g' hgl' (off' + i)).trans cQ
              have hI6 := HI'.out.keep hb6
              have fD6 := hI6.free j
              have HI6 := Lib.hid hI6
              have HQ6 := Lib.hid (HQ'.out.keep hb6)
              have HE6 := Lib.hid (HE'.out.trans hb6)
              have hsz6 := hb6.size
              have HB6 := Lib.hid hb6
              clear hI6 hb6 cD cP cQ fD
              go_wp2_with (at_builtin; refine (fun h : Hid _ => h.out) ?_)
              unfold Hid
              obtain ⟨wj, hwj⟩ : ∃ wj, wj = w6.setCell ⟨gD, j, none⟩ (.int .i64 (dp + 1)) := ⟨_, rfl⟩
              rw [← hwj]
              have hszj : wj.heap.size = w6.heap.size := by rw [hwj]; simp [World.setCell]
              have hqj : QRow wj wb.heap.size [gD] 3 (.slice (some ⟨g', off', none⟩) S'.q.length cap') S'.q := by rw [hwj]; exact HQ6.out.far (by simp) j _
              have hij : IBlk wj gD 3 (S'.d.set j (dp + 1)) := by rw [hwj]; exact HI6.out.set j (dp + 1)
              have hEj : Ext wb wj := by rw [hwj]; exact HE6.out.setCell hgDb _
              refine QRow.append ei_I rfl _ _ rfl wb.heap.size [gD] wj _ _ S'.q (by rfl) hqj (j : Int) (by rw [hszj]; rfl) (by omega) (by omega) (by intro x hx; simp at hx; omega) ?_
              intro v7 w7 hq7 he7 hb7
              have HE7 := Lib.hid (he7 wb hEj (Nat.le_refl _))
              have hi7 : IBlk w7 gD 3 (S'.d.set j (dp + 1)) := hb7 gD (by simp) _ _ hij
              have HI7 := Lib.hid hi7
              have HQ7 := Lib.hid hq7
              have hq0 : (S'.q ++ [(j : Int)]).getD i 0 = (p : Int) ∧ i < (S'.q ++ [(j : Int)]).length := by
                rw [← hxp'.out]
                refine ⟨by simp [List.getElem?_append_left hlt'], by simp; omega⟩
              have hfp7 := vis_mono (x := (p : Int)) (k := j) (by omega) hfp'.out
              have HFP7 := Lib.hid hfp7
              have HQ0 := Lib.hid hq0
              clear hwj hszj hqj hij hEj hq7 he7 hb7 hi7 hq0 hfp7
              go_wp2_with fail
              go_roundw
              case rel => exact ⟨j + 1, visB ds (p : Int) S' j, by omega, by go_num, by rw [hvis.out]; exact HQ7.out, by rw [hvis.out]; exact HI7.out, by unfold Hid; rw [hvis2.out]; exact HBV.out, by unfold Hid; rw [hsn.out], by unfold Hid; rw [hvis.out]; exact HQ0.out.1, by rw [hvis.out]; exact HQ0.out.2, by unfold Hid; rw [hvis2.out]; exact HFP7.out, HE7.out⟩
              case measure => simp [intOf]; omega
            · obtain rfl : j = k := by omega
              have HE' := Lib.hid hE'
              have HI' := Lib.hid hI'
              have HQ' := Lib.hid hq'
              have hrnd : Hid (bfs ds j (j - i) i S = bfs ds j (j - (i + 1)) (i + 1) S') := by
                unfold Hid
                have e : j - i = (j - (i + 1)) + 1 := by omega
                rw [e, bfs, if_pos hiq, rnd, Hxp.out, ← hS'.out]
              clear hE' hI' hq'
              go_wp2_with fail
              go_roundw
              case rel => exact ⟨i + 1, S', hlt', by go_num, HQ'.out, HI'.out, hbi'.out, by unfold Hid; rw [hz.out, hrnd.out], HE'.out⟩
              case measure => simp [intOf]; omega
        · have hSe : bfsAll ds k a = S := by
            rw [hz.out]
            cases k - i with
            | zero => rfl
            | succ m => rw [bfs, if_neg hiq]
          have HSe := Lib.hid hSe
          have HIo := Lib.hid hI
          have HEo := Lib.hid hb'
          have hiq2 : i = S.q.length := by omega
          clear hSe hI hb' hq hcell
          go_wp2_with fail
          go_ret
          exact ⟨gD, rfl, HE.out.trans HEo.out, by omega, by rw [HSe.out]; exact HIo.out⟩
end Go.Proofs.Ytkelmeemblmggaa
