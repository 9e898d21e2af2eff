/- The program's ParseMove; no condition but what stands at each theorem. -/
import Derived.Test.YtcmbjkidgemdaaaDoorSTe
namespace Go.Proofs.YtcmbjkidgemdaaaDoor
set_option linter.unusedSimpArgs false
set_option linter.unusedVariables false
open Go.RowKit Go.Sort
theorem bas_of {L : List ByteArray} {fs : List (List UInt8)} (h : L.map (·.data.toList) = fs) : L = bas fs := by
  subst h
  unfold bas
  rw [List.map_map]
  conv => lhs; rw [← List.map_id L]
  exact List.map_congr_left (fun l _ => by simp)
theorem bas_sval (fs : List (List UInt8)) : (bas fs).map Value.string = sval fs := by
  unfold bas sval
  rw [List.map_map]
  rfl
theorem cuts_empty : cuts 32 ByteArray.empty.data.toList = [[]] := rfl
theorem mv_lenC {x : ByteArray} (h : (cuts 32 x.data.toList).length ≠ 5) : ∀ m', mvB m' = true → x ≠ moveT m' := by
  rintro m' hm rfl
  rw [mv_cuts hm] at h
  exact h rfl
set_option maxRecDepth 100000 in
set_option maxHeartbeats 4000000 in
theorem impl_ParseMove (x : ByteArray) (w : World) (hx : x.size ≤ 1048576) (hM : Hid (∃ m, w.cell? ⟨0, 0, none⟩ = some (.int .i64 m))) : Calls Tryd.prog 25 #[.string x] w (PMPost x w) := by
  obtain ⟨wa, hwa⟩ : ∃ wa, wa = w.alloc (.cells #[.int .i64 0, .int .i64 0, .int .i64 0, .int .i64 0] 25) := ⟨_, rfl⟩
  have hEa : Ext w wa := by rw [hwa]; exact (Ext.refl w).alloc _
  have hsa : wa.heap.size = w.heap.size + 1 := by rw [hwa]; simp
  have hB : Blk wa w.heap.size 25 #[.int .i64 0, .int .i64 0, .int .i64 0, .int .i64 0] := by rw [hwa]; exact Blk.new _ _ _
  have Hwa := Lib.hid hwa
  have HEa := Lib.hid hEa
  obtain ⟨mm, hm0⟩ := hM
  have hm1 : wa.cell? ⟨0, 0, none⟩ = some (.int .i64 mm) := (hEa.cellAt _ (World.block_lt_of_cell? w _ hm0) 0).trans hm0
  have cS := Lib.hid (Tryd.strings_Split x ⟨#[32]⟩ mm wa (by omega) hm1 (by decide))
  clear hwa hEa hm0 hm1
  go_enter Tryd.func25, Tryd.ntmps25
  go_wp2_with fail
  rw [← Hwa.out]
  refine cS.out.mono ?_
  rintro e w1 ⟨rfl, hw1⟩
  obtain ⟨fs, hfs⟩ : ∃ fs, fs = cuts 32 x.data.toList := ⟨_, rfl⟩
  have hbs := bas_of (splitB_cuts 32 x)
  have hfn : Lib.countB x ⟨#[32]⟩ + 1 = fs.length := by rw [← Lib.splitB_all ⟨#[32]⟩ (by decide) 0 _ x rfl, hbs, bas_len, hfs]
  rw [hfn]
  rw [hbs, ← hfs] at hw1
  have hb1 : Ext wa w1 := by rw [hw1]; exact (Ext.refl _).alloc _
  have hcell : ∀ j u, (sval fs)[j]? = some u → w1.cell? ⟨wa.heap.size, 0 + j, none⟩ = some u := fun j u hu => by
    rw [hw1, World.cell?_alloc_new, Nat.zero_add]
    rw [← bas_sval] at hu
    simpa using hu
  have hg : wa.heap.size < w1.heap.size := by rw [hw1]; simp
  obtain ⟨g, hgg⟩ : ∃ g, g = wa.heap.size := ⟨_, rfl⟩
  rw [← hgg] at hcell hg ⊢
  have Hcell := Lib.hid hcell
  have hB1 := hB.keep hb1
  have hs1 := hb1.size
  have HE1 := Lib.hid (HEa.out.trans hb1)
  have l0 : w.heap.size < w1.heap.size := by omega
  have m0 : w1.heap.size ≠ w.heap.size := by omega
  have hgw : w1.heap.size ≠ g := by omega
  have c0 : w1.cell? ⟨w.heap.size, 0, none⟩ = some (.int .i64 0) := hB1.cell 0
  have c1 : w1.cell? ⟨w.heap.size, 1, none⟩ = some (.int .i64 0) := hB1.cell 1
  have c2 : w1.cell? ⟨w.heap.size, 2, none⟩ = some (.int .i64 0) := hB1.cell 2
  have c3 : w1.cell? ⟨w.heap.size, 3, none⟩ = some (.int .i64 0) := hB1.cell 3
  have fz : ∀ o, w1.frozen? ⟨w.heap.size, o, none⟩ = false := fun o => hB1.free o
  have hfl : ∀ l ∈ fs, l.length ≤ x.size := fun l hl => by
    have := cuts_len 32 x.data.toList l (by rw [← hfs]; exact hl)
    rwa [toList_size] at this
  have hfp : 1 ≤ fs.length := by omega
  have Hfl := Lib.hid hfl
  have Hfs := Lib.hid hfs
  clear hb1 hB hw1 hbs hfn hcell hfl hfs
  obtain rfl : g = w.heap.size + 1 := by omega
  clear hgg
  by_cases hm : fs.length = 5
  case neg =>
    have HN : Hid (∀ m', mvB m' = true → x ≠ moveT m') := mv_lenC (by rw [← Hfs.out]; exact hm)
    have hne : ((fs.length : Int) == 5) = false := beq_false_of_ne (by omega)
    clear hm
    go_wp2_with fail
    obtain ⟨WF, hWF⟩ : ∃ WF, WF = set4 w1 w.heap.size (.int .i64 0) (.int .i64 0) (.int .i64 0) (.int .i64 0) := ⟨_, rfl⟩
    have FB := set4_blk hB1 (.int .i64 0) (.int .i64 0) (.int .i64 0) (.int .i64 0)
    have FE := set4_ext HE1.out (Nat.le_refl _) (.int .i64 0) (.int .i64 0) (.int .i64 0) (.int .i64 0)
    rw [← hWF] at FB FE
    unfold set4 at hWF
    rw [← hWF]
    clear hWF
    have y0 := FB.cell 0
    have y1 := FB.cell 1
    have y2 := FB.cell 2
    have y3 := FB.cell 3
    refine bodyPost_ret (v := .tuple #[.agg #[.int .i64 0, .int .i64 0, .int .i64 0, .int .i64 0], .bool false]) (by simp [results, Tryd.results25, go_sem, y0, y1, y2, y3]) rfl (pm_none HN.out FE)
  case pos =>
    have Hm := Lib.hid hm
    rw [hm]
    clear hm
    obtain ⟨A28, c28, h28, hsl⟩ := tail_of (w.heap.size + 1) 0 4 5 (by omega)
    obtain rfl := h28 (by omega)
    clear h28
    go_wp2_with fail
    clear hsl
    obtain ⟨wo, hwo⟩ : ∃ wo, wo = w1.alloc (.cells #[] 3) := ⟨_, rfl⟩
    rw [← hwo]
    have hEo : Ext w1 wo := by rw [hwo]; exact (Ext.refl w1).alloc _
    have Ho0 : Hid (wo.ownsRow w1.heap.size 3 1 (.slice (some ⟨w1.heap.size, 0, none⟩) 0 0) 0 []) := by rw [hwo]; exact own_empty w1 w1.heap.size 3 1 (Nat.le_refl _)
    have HEo := Lib.hid hEo
    have hso := hEo.size
    clear hwo hEo
    go_loopw [5, 21] (fun v i wr => ∃ (k : Nat) (zs : List Int), k ≤ 4 ∧ i = .int .i64 k ∧ zs.length = k ∧ Hid (wr.ownsRow w1.heap.size 3 1 v zs.length (zs.flatMap ienc)) ∧ Hid (NumsOf fs zs) ∧ Ext w1 wr) (fun _ i _ => 4 - (intOf i).toNat)
    case atStart => exact ⟨0, [], by omega, rfl, rfl, Ho0, Lib.hid (fun j f z hz => by simp at hz), HEo.out⟩
    case round =>
      obtain ⟨k, zs, hkm, rfl, hzl, hown, hN, hb⟩ := hrel
      have HB1 := Lib.hid hb
      have hsw := hb.size
      clear hb
      by_cases hlt : k < 4
      · obtain ⟨f, hf⟩ : ∃ f, fs[k + 1]? = some f := ⟨fs[k + 1]'(by rw [Hm.out]; omega), List.getElem?_eq_getElem (by rw [Hm.out]; omega)⟩
        have hfl := Hfl.out f (List.mem_of_getElem? hf)
        have q1 : wr.cell? ⟨w.heap.size + 1, 1 + k, none⟩ = some (.string ⟨f.toArray⟩) := by
          rw [Nat.add_comm 1 k, ← Nat.zero_add (k + 1)]
          exact (HB1.out.cellAt (w.heap.size + 1) hg (0 + (k + 1))).trans (Hcell.out (k + 1) _ (by rw [sval, List.getElem?_map, hf]; rfl))
        have hNs := Lib.hid (fun (z : Int) (hz : NumOf f z) => nums_snoc hN.out (by rw [show zs.length = k from hzl]; exact hf) hz)
        obtain ⟨F, hF⟩ : ∃ F : ByteArray, F = ⟨f.toArray⟩ := ⟨_, rfl⟩
        have hFs : F.size ≤ 1048576 := by rw [hF, mk_size]; omega
        have HFF := Lib.hid hF
        rw [← hF] at q1
        clear hf hF
        have cN := Lib.hid (impl_ParseUint F wr (by omega))
        have hgr : wr.heap.size ≠ w.heap.size + 1 := by omega
        have hgl : w.heap.size + 1 < wr.heap.size := by omega
        have hkl : zs.length ≤ 5 := by omega
        have hki : (k : Int) < 4 := by omega
        go_wp2_with (first
          | (go_at_call 45; refine cN.out.mono ?_; rintro e w2 ⟨z, b, rfl, hz9, hb2, hz⟩; have HB2 := Lib.hid hb2; have hs2 := hb2.size; have HZ := Lib.hid hz; clear hb2 hz)
          | (at_builtin; refine append1 ei_N rfl _ _ rfl w1.heap.size w2 _ _ zs.length _ (by rfl) (own_keep hown.out HB2.out) [.int .i64 z] (by rfl) rfl (one_intN _) (by omega) (by omega) ?_; intro v' w3 ho3 he3; have HO3 := Lib.hid ho3; have HE3 := Lib.hid (he3 w1 (HB1.out.trans HB2.out) (Nat.le_refl _)); clear ho3 he3))
        go_roundw
        case rel => exact ⟨k + 1, zs ++ [(z : Int)], by omega, by go_num, by simp; omega, by (unfold Hid; rw [List.length_append, List.flatMap_append]; exact HO3.out), hNs.out (z : Int) (fun i hi he => by have h := (HZ.out i hi (by rw [HFF.out]; exact he)).1; show z = (i : Int); omega), HE3.out⟩
        case measure => simp [intOf] <;> omega
      · obtain rfl : k = 4 := by omega
        have hz4 : zs.length = 4 := hzl
        have hki : ¬ ((4 : Nat) : Int) < 4 := by omega
        obtain ⟨Av, cv, rfl, hcv⟩ := own_form hown.out
        obtain ⟨-, -, hr3⟩ := Rd.of_own hown.out
        obtain ⟨g3, o3, rfl, hg3, hc3⟩ := hr3 (by omega)
        have hc4 : ∀ j, j < 4 → wr.cell? ⟨g3, o3 + j, none⟩ = some (.int .i64 (zs.getD j 0)) := fun j hj => hc3 j _ (by
          rw [ienc_map, List.getElem?_map, List.getD_eq_getElem?_getD, List.getElem?_eq_getElem (by omega)]; rfl)
        have A0 := nums_get hN.out (j := 0) (by omega)
        have r0 := hc4 0 (by omega)
        have A1 := nums_get hN.out (j := 1) (by omega)
        have r1 := hc4 1 (by omega)
        have A2 := nums_get hN.out (j := 2) (by omega)
        have r2 := hc4 2 (by omega)
        have A3 := nums_get hN.out (j := 3) (by omega)
        have r3 := hc4 3 (by omega)
        rw [hz4] at hcv ⊢
        obtain ⟨n0, hn0⟩ : ∃ n, n = zs.getD 0 0 := ⟨_, rfl⟩
        rw [← hn0] at A0 r0
        obtain ⟨n1, hn1⟩ : ∃ n, n = zs.getD 1 0 := ⟨_, rfl⟩
        rw [← hn1] at A1 r1
        obtain ⟨n2, hn2⟩ : ∃ n, n = zs.getD 2 0 := ⟨_, rfl⟩
        rw [← hn2] at A2 r2
        obtain ⟨n3, hn3⟩ : ∃ n, n = zs.getD 3 0 := ⟨_, rfl⟩
        rw [← hn3] at A3 r3
        rw [Nat.add_zero] at r0
        have hxne : x ≠ ByteArray.empty := fun e => by
          have h5 := Hm.out
          rw [Hfs.out, e, cuts_empty] at h5
          cases h5
        have HA := Lib.hid (mv_end hxne (fun m' hm e => by rw [Hfs.out, e]; exact mv_cuts hm) A0 A1 A2 A3)
        have mg3 : wr.heap.size ≠ g3 := by omega
        have hBr := hB1.keep HB1.out
        clear hc3 hc4 hr3 A0 A1 A2 A3 hn0 hn1 hn2 hn3 hxne
        go_wp2_with fail
        go_region
        obtain ⟨W4, hW4⟩ : ∃ W4, W4 = (wr.alloc (.cells #[.int .i64 n0, .int .i64 n1, .int .i64 n2, .int .i64 n3] 25)).drew := ⟨_, rfl⟩
        have hE4 : Ext wr W4 := by rw [hW4]; exact ((Ext.refl wr).alloc _).drew
        have hB4 : Blk W4 wr.heap.size 25 #[.int .i64 n0, .int .i64 n1, .int .i64 n2, .int .i64 n3] := by rw [hW4]; exact (Blk.new _ _ _).drew
        rw [← hW4]
        clear hW4 r0 r1 r2 r3
        have b0 : W4.cell? ⟨wr.heap.size, 0, none⟩ = some (.int .i64 n0) := hB4.cell 0
        have b1 : W4.cell? ⟨wr.heap.size, 1, none⟩ = some (.int .i64 n1) := hB4.cell 1
        have b2 : W4.cell? ⟨wr.heap.size, 2, none⟩ = some (.int .i64 n2) := hB4.cell 2
        have b3 : W4.cell? ⟨wr.heap.size, 3, none⟩ = some (.int .i64 n3) := hB4.cell 3
        have cF := Lib.hid (impl_MoveText (⟨n0, n1, n2, n3⟩ : GMove) W4)
        obtain ⟨T2, hT2⟩ : ∃ T2, T2 = moveT (⟨n0, n1, n2, n3⟩ : GMove) := ⟨_, rfl⟩
        rw [← hT2] at cF HA
        have HT2 := Lib.hid hT2
        have HE4 := Lib.hid hE4
        have HB4 := Lib.hid hB4
        have HBR := Lib.hid hBr
        have l4 := HB4.out.lt
        have z4 := hE4.size
        have hwr : w.heap.size < wr.heap.size := hBr.lt
        clear hE4 hB4 hT2 hBr
        cases hq : (T2.toList == x.toList)
        case false =>
          have HN := Lib.hid (HA.out.2 hq)
          go_wp2_with (go_at_call 12; refine cF.out.mono ?_; rintro e w5 ⟨rfl, hb5⟩; have HB5 := Lib.hid hb5; have z5 := hb5.size; have x0 := (hb5.cellAt wr.heap.size HB4.out.lt 0).trans b0; have x1 := (hb5.cellAt wr.heap.size HB4.out.lt 1).trans b1; have x2 := (hb5.cellAt wr.heap.size HB4.out.lt 2).trans b2; have x3 := (hb5.cellAt wr.heap.size HB4.out.lt 3).trans b3; have D5 := Lib.hid (HBR.out.keep (HE4.out.trans hb5)); have d0 := D5.out.cell 0; have d1 := D5.out.cell 1; have d2 := D5.out.cell 2; have d3 := D5.out.cell 3; have dz : ∀ o, w5.frozen? ⟨w.heap.size, o, none⟩ = false := fun o => D5.out.free o; have m5 : w5.heap.size ≠ w.heap.size := (by omega); have l5 : w.heap.size < w5.heap.size := (by omega); clear hb5)
          obtain ⟨WF, hWF⟩ : ∃ WF, WF = set4 w5 w.heap.size (.int .i64 0) (.int .i64 0) (.int .i64 0) (.int .i64 0) := ⟨_, rfl⟩
          have FB := set4_blk D5.out (.int .i64 0) (.int .i64 0) (.int .i64 0) (.int .i64 0)
          have FE := set4_ext (HE1.out.trans (HB1.out.trans (HE4.out.trans HB5.out))) (Nat.le_refl _) (.int .i64 0) (.int .i64 0) (.int .i64 0) (.int .i64 0)
          rw [← hWF] at FB FE
          unfold set4 at hWF
          rw [← hWF]
          clear hWF
          have y0 := FB.cell 0
          have y1 := FB.cell 1
          have y2 := FB.cell 2
          have y3 := FB.cell 3
          refine bodyPost_ret (v := .tuple #[.agg #[.int .i64 0, .int .i64 0, .int .i64 0, .int .i64 0], .bool false]) (by simp [results, Tryd.results25, go_sem, y0, y1, y2, y3]) rfl (pm_none HN.out FE)
        case true =>
          have HY := Lib.hid (HA.out.1 hq)
          go_wp2_with (go_at_call 12; refine cF.out.mono ?_; rintro e w5 ⟨rfl, hb5⟩; have HB5 := Lib.hid hb5; have z5 := hb5.size; have x0 := (hb5.cellAt wr.heap.size HB4.out.lt 0).trans b0; have x1 := (hb5.cellAt wr.heap.size HB4.out.lt 1).trans b1; have x2 := (hb5.cellAt wr.heap.size HB4.out.lt 2).trans b2; have x3 := (hb5.cellAt wr.heap.size HB4.out.lt 3).trans b3; have D5 := Lib.hid (HBR.out.keep (HE4.out.trans hb5)); have d0 := D5.out.cell 0; have d1 := D5.out.cell 1; have d2 := D5.out.cell 2; have d3 := D5.out.cell 3; have dz : ∀ o, w5.frozen? ⟨w.heap.size, o, none⟩ = false := fun o => D5.out.free o; have m5 : w5.heap.size ≠ w.heap.size := (by omega); have l5 : w.heap.size < w5.heap.size := (by omega); clear hb5)
          obtain ⟨WF, hWF⟩ : ∃ WF, WF = set4 w5 w.heap.size (.int .i64 n0) (.int .i64 n1) (.int .i64 n2) (.int .i64 n3) := ⟨_, rfl⟩
          have FB := set4_blk D5.out (.int .i64 n0) (.int .i64 n1) (.int .i64 n2) (.int .i64 n3)
          have FE := set4_ext (HE1.out.trans (HB1.out.trans (HE4.out.trans HB5.out))) (Nat.le_refl _) (.int .i64 n0) (.int .i64 n1) (.int .i64 n2) (.int .i64 n3)
          rw [← hWF] at FB FE
          unfold set4 at hWF
          rw [← hWF]
          clear hWF
          have y0 := FB.cell 0
          have y1 := FB.cell 1
          have y2 := FB.cell 2
          have y3 := FB.cell 3
          refine bodyPost_ret (v := .tuple #[.agg #[.int .i64 n0, .int .i64 n1, .int .i64 n2, .int .i64 n3], .bool true]) (by simp [results, Tryd.results25, go_sem, y0, y1, y2, y3]) rfl (pm_some (⟨n0, n1, n2, n3⟩ : GMove) HY.out.1 (HY.out.2.trans HT2.out) FE)
end Go.Proofs.YtcmbjkidgemdaaaDoor
