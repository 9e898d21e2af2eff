/- Texts of one proof, laid one behind the other (STe, STf, LV, SHo, SP4, SHp); no condition but what stands at each theorem. -/
import Derived.Test.YtkelmeemblmggaaGreatDoorZB
import Derived.Test.YtkelmeemblmggaaGreatDoorZL
import Derived.Test.YtkelmeemblmggaaGreatDoorZO
import Derived.Test.YtkelmeemblmggaaGreatDoorZR
/- ParseMove of both sides; no condition but what stands at each theorem. -/
namespace Go.Proofs.YtkelmeemblmggaaGreatDoor
set_option linter.unusedSimpArgs false
set_option linter.unusedVariables false
open Go.RowKit Go.Sort
def PMPost (x : ByteArray) (w : World) (e : Ending) (w' : World) : Prop :=
  ∃ (m : GMove) (b : Bool), e = .returned (.tuple #[.agg #[.int .i64 m.o, .int .i64 m.t, .int .i64 m.f, .int .i64 m.s], .bool b]) ∧ Ext w w' ∧ PM x m b
theorem pm_none {x : ByteArray} {w w' : World} (h : ∀ m', mvB m' = true → x ≠ moveT m') (e : Ext w w') :
    PMPost x w (.returned (.tuple #[.agg #[.int .i64 0, .int .i64 0, .int .i64 0, .int .i64 0], .bool false])) w' :=
  ⟨⟨0, 0, 0, 0⟩, false, rfl, e, .inr ⟨rfl, rfl, h⟩⟩
theorem pm_some {x : ByteArray} {w w' : World} (m : GMove) (hm : mvB m = true) (hx : x = moveT m) (e : Ext w w') :
    PMPost x w (.returned (.tuple #[.agg #[.int .i64 m.o, .int .i64 m.t, .int .i64 m.f, .int .i64 m.s], .bool true])) w' :=
  ⟨m, true, rfl, e, .inl ⟨rfl, hm, hx⟩⟩
def set4 (W : World) (g : Nat) (u0 u1 u2 u3 : Value) : World := (((W.setCell ⟨g, 0, none⟩ u0).setCell ⟨g, 1, none⟩ u1).setCell ⟨g, 2, none⟩ u2).setCell ⟨g, 3, none⟩ u3
theorem set4_blk {W : World} {g : Nat} {t : TypeId} {v0 v1 v2 v3 : Value} (hB : Blk W g t #[v0, v1, v2, v3]) (u0 u1 u2 u3 : Value) : Blk (set4 W g u0 u1 u2 u3) g t #[u0, u1, u2, u3] :=
  (((hB.set 0 u0).set 1 u1).set 2 u2).set 3 u3
theorem set4_ext {w W : World} {g : Nat} (h : Ext w W) (hg : w.heap.size ≤ g) (u0 u1 u2 u3 : Value) : Ext w (set4 W g u0 u1 u2 u3) :=
  (((h.setCell (p := ⟨g, 0, none⟩) hg u0).setCell (p := ⟨g, 1, none⟩) hg u1).setCell (p := ⟨g, 2, none⟩) hg u2).setCell (p := ⟨g, 3, none⟩) hg u3
theorem nums_get {fs : List (List UInt8)} {zs : List Int} (h : NumsOf fs zs) {j : Nat} (hj : j < zs.length) : ∀ f, fs[j + 1]? = some f → NumOf f (zs.getD j 0) := fun f hf =>
  h j f _ (by rw [List.getD_eq_getElem?_getD, List.getElem?_eq_getElem hj]; rfl) hf
theorem mv_len {x : ByteArray} (h : (fieldsOf x).length ≠ 5) : ∀ m', mvB m' = true → x ≠ moveT m' := by
  rintro m' hm rfl
  rw [mv_fields hm] at h
  exact h rfl
/-- The end of ParseMove: the numbers of the words, the text compared. -/
theorem mv_end {x : ByteArray} {fs : List (List UInt8)} {n0 n1 n2 n3 : Int} (hx : x ≠ ByteArray.empty) (hw : ∀ m', mvB m' = true → x = moveT m' → fs = mvW m') (h0 : ∀ f, fs[1]? = some f → NumOf f n0) (h1 : ∀ f, fs[2]? = some f → NumOf f n1) (h2 : ∀ f, fs[3]? = some f → NumOf f n2) (h3 : ∀ f, fs[4]? = some f → NumOf f n3) :
    (((moveT ⟨n0, n1, n2, n3⟩).toList == x.toList) = true → mvB ⟨n0, n1, n2, n3⟩ = true ∧ x = moveT ⟨n0, n1, n2, n3⟩) ∧ (((moveT ⟨n0, n1, n2, n3⟩).toList == x.toList) = false → ∀ m', mvB m' = true → x ≠ moveT m') := by
  refine ⟨fun h => ?_, fun h m' hm e => ?_⟩
  · have e := bytes_eq h
    refine ⟨?_, e.symm⟩
    cases hb : mvB ⟨n0, n1, n2, n3⟩
    · rw [moveT_bad hb] at e
      exact absurd e.symm hx
    · rfl
  · have := mv_nums hm (hw m' hm e) h0 h1 h2 h3
    subst this
    exact bytes_ne h e.symm
theorem fields_nil : fieldsOf ByteArray.empty = [] := rfl
set_option maxRecDepth 100000 in
set_option maxHeartbeats 4000000 in
theorem spec_ParseMove (x : ByteArray) (w : World) (hx : x.size ≤ 1048576) : Calls Tryz.prog 100 #[.string x] w (PMPost x w) := by
  obtain ⟨wa, hwa⟩ : ∃ wa, wa = w.alloc (.cells #[.int .i64 0, .int .i64 0, .int .i64 0, .int .i64 0] 56) := ⟨_, rfl⟩
  have hEa : Ext w wa := by rw [hwa]; exact (Ext.refl w).alloc _
  have hsa : wa.heap.size = w.heap.size + 1 := by rw [hwa]; simp
  have hB : Blk wa w.heap.size 56 #[.int .i64 0, .int .i64 0, .int .i64 0, .int .i64 0] := by rw [hwa]; exact Blk.new _ _ _
  have Hwa := Lib.hid hwa
  have HEa := Lib.hid hEa
  have cS := Lib.hid (spec_SplitFields x wa hx)
  clear hwa hEa
  go_enter Tryz.func100, Tryz.ntmps100
  go_wp2_with fail
  rw [← Hwa.out]
  refine cS.out.mono ?_
  rintro e w1 ⟨v, rfl, hb1, hown⟩
  have hB1 := hB.keep hb1
  have hs1 := hb1.size
  have HE1 := Lib.hid (HEa.out.trans hb1)
  have l0 : w.heap.size < w1.heap.size := by omega
  have m0 : w1.heap.size ≠ w.heap.size := by omega
  have c0 : w1.cell? ⟨w.heap.size, 0, none⟩ = some (.int .i64 0) := hB1.cell 0
  have c1 : w1.cell? ⟨w.heap.size, 1, none⟩ = some (.int .i64 0) := hB1.cell 1
  have c2 : w1.cell? ⟨w.heap.size, 2, none⟩ = some (.int .i64 0) := hB1.cell 2
  have c3 : w1.cell? ⟨w.heap.size, 3, none⟩ = some (.int .i64 0) := hB1.cell 3
  have fz : ∀ o, w1.frozen? ⟨w.heap.size, o, none⟩ = false := fun o => hB1.free o
  clear hb1 hB
  cases hok : spOk x
  case false =>
    have HN : Hid (∀ m', mvB m' = true → x ≠ moveT m') := fun m' h e => by rw [e, mv_sp h] at hok; cases hok
    clear hown hok
    go_wp2_with fail
    obtain ⟨WF, hWF⟩ : ∃ WF, WF = set4 w1 w.heap.size (.int .i64 0) (.int .i64 0) (.int .i64 0) (.int .i64 0) := ⟨_, rfl⟩
    have FB := set4_blk hB1 (.int .i64 0) (.int .i64 0) (.int .i64 0) (.int .i64 0)
    have FE := set4_ext HE1.out (Nat.le_refl _) (.int .i64 0) (.int .i64 0) (.int .i64 0) (.int .i64 0)
    rw [← hWF] at FB FE
    unfold set4 at hWF
    rw [← hWF]
    clear hWF
    have y0 := FB.cell 0
    have y1 := FB.cell 1
    have y2 := FB.cell 2
    have y3 := FB.cell 3
    refine bodyPost_ret (v := .tuple #[.agg #[.int .i64 0, .int .i64 0, .int .i64 0, .int .i64 0], .bool false]) (by simp [results, Tryz.results100, go_sem, y0, y1, y2, y3]) rfl (pm_none HN.out FE)
  case true =>
    replace hown := hown hok
    have hfl := fields_len x
    have hx6 : x.size ≤ 600 := by
      unfold spOk at hok; simp at hok; exact hok.1.1
    obtain ⟨fs, hfs⟩ : ∃ fs, fs = fieldsOf x := ⟨_, rfl⟩
    have Hfs := Lib.hid hfs
    rw [← hfs] at hown hfl
    have Hfl := Lib.hid hfl
    clear hfs hok hfl
    obtain ⟨A, c', rfl, hnc⟩ := own_form hown
    have HOW := Lib.hid hown
    clear hown
    by_cases hm : fs.length = 5
    case neg =>
      have HN : Hid (∀ m', mvB m' = true → x ≠ moveT m') := mv_len (by rw [← Hfs.out]; exact hm)
      have hne : ((fs.length : Int) == 5) = false := beq_false_of_ne (by omega)
      clear hm
      go_wp2_with fail
      obtain ⟨WF, hWF⟩ : ∃ WF, WF = set4 w1 w.heap.size (.int .i64 0) (.int .i64 0) (.int .i64 0) (.int .i64 0) := ⟨_, rfl⟩
      have FB := set4_blk hB1 (.int .i64 0) (.int .i64 0) (.int .i64 0) (.int .i64 0)
      have FE := set4_ext HE1.out (Nat.le_refl _) (.int .i64 0) (.int .i64 0) (.int .i64 0) (.int .i64 0)
      rw [← hWF] at FB FE
      unfold set4 at hWF
      rw [← hWF]
      clear hWF
      have y0 := FB.cell 0
      have y1 := FB.cell 1
      have y2 := FB.cell 2
      have y3 := FB.cell 3
      refine bodyPost_ret (v := .tuple #[.agg #[.int .i64 0, .int .i64 0, .int .i64 0, .int .i64 0], .bool false]) (by simp [results, Tryz.results100, go_sem, y0, y1, y2, y3]) rfl (pm_none HN.out FE)
    case pos =>
    have Hm := Lib.hid hm
    obtain ⟨-, -, hr⟩ := Rd.of_own HOW.out
    obtain ⟨g, o, rfl, hg, hcell⟩ := hr (by omega)
    have Hcell := Lib.hid hcell
    rw [hm] at hnc ⊢
    clear hr hcell hm
    have hgw : w1.heap.size ≠ g := by omega
    go_wp2_with fail
    obtain ⟨wo, hwo⟩ : ∃ wo, wo = w1.alloc (.cells #[] 3) := ⟨_, rfl⟩
    rw [← hwo]
    have hEo : Ext w1 wo := by rw [hwo]; exact (Ext.refl w1).alloc _
    have Ho0 : Hid (wo.ownsRow w1.heap.size 3 1 (.slice (some ⟨w1.heap.size, 0, none⟩) 0 0) 0 []) := by rw [hwo]; exact own_empty w1 w1.heap.size 3 1 (Nat.le_refl _)
    have HEo := Lib.hid hEo
    have hso := hEo.size
    clear hwo hEo
    go_loopw [6, 7] (fun v i wr => ∃ (k : Nat) (zs : List Int), 1 ≤ k ∧ k ≤ 5 ∧ i = .int .i64 k ∧ zs.length + 1 = k ∧ Hid (wr.ownsRow w1.heap.size 3 1 v zs.length (zs.flatMap ienc)) ∧ Hid (NumsOf fs zs) ∧ Ext w1 wr) (fun _ i _ => 5 - (intOf i).toNat)
    case atStart => exact ⟨1, [], Nat.le_refl _, by omega, rfl, rfl, Ho0, Lib.hid (fun j f z hz => by simp at hz), HEo.out⟩
    case round =>
      obtain ⟨k, zs, hk1, hkm, rfl, hzl, hown, hN, hb⟩ := hrel
      have HB1 := Lib.hid hb
      have hsw := hb.size
      clear hb
      by_cases hlt : k < 5
      · obtain ⟨f, hf⟩ : ∃ f, fs[k]? = some f := ⟨fs[k]'(by rw [Hm.out]; exact hlt), List.getElem?_eq_getElem (by rw [Hm.out]; exact hlt)⟩
        have hfl := Hfl.out f (List.mem_of_getElem? hf)
        have q1 : wr.cell? ⟨g, o + k, none⟩ = some (.string ⟨f.toArray⟩) := (HB1.out.cellAt g hg (o + k)).trans (Hcell.out k _ (by rw [sval, List.getElem?_map, hf]; rfl))
        have hNs := Lib.hid (fun (z : Int) (hz : NumOf f z) => nums_snoc hN.out (by rw [show zs.length + 1 = k from hzl]; exact hf) hz)
        obtain ⟨F, hF⟩ : ∃ F : ByteArray, F = ⟨f.toArray⟩ := ⟨_, rfl⟩
        have hFs : F.size ≤ 601 := by rw [hF, mk_size]; omega
        have HFF := Lib.hid hF
        rw [← hF] at q1
        clear hf hF
        have cN := Lib.hid (spec_ParseUint F wr (by omega))
        have hgr : wr.heap.size ≠ g := by omega
        have hkl : zs.length ≤ 5 := by omega
        go_wp2_with (first
          | (go_at_call 150; refine cN.out.mono ?_; rintro e w2 ⟨z, b, rfl, hz9, hb2, hz⟩; have HB2 := Lib.hid hb2; have hs2 := hb2.size; have HZ := Lib.hid hz; clear hb2 hz)
          | (at_builtin; refine append1 ei_N rfl _ _ rfl w1.heap.size w2 _ _ zs.length _ (by rfl) (own_keep hown.out HB2.out) [.int .i64 z] (by rfl) rfl (one_intN _) (by omega) (by omega) ?_; intro v' w3 ho3 he3; have HO3 := Lib.hid ho3; have HE3 := Lib.hid (he3 w1 (HB1.out.trans HB2.out) (Nat.le_refl _)); clear ho3 he3))
        go_roundw
        case rel => exact ⟨k + 1, zs ++ [(z : Int)], by omega, by omega, by go_num, by simp; omega, by (unfold Hid; rw [List.length_append, List.flatMap_append]; exact HO3.out), hNs.out (z : Int) (fun i hi he => by have h := (HZ.out i hi (by rw [HFF.out]; exact he)).1; show z = (i : Int); omega), HE3.out⟩
        case measure => simp [intOf] <;> omega
      · obtain rfl : k = 5 := by omega
        have hz4 : zs.length = 4 := by omega
        obtain ⟨Av, cv, rfl, hcv⟩ := own_form hown.out
        obtain ⟨-, -, hr3⟩ := Rd.of_own hown.out
        obtain ⟨g3, o3, rfl, hg3, hc3⟩ := hr3 (by omega)
        have hc4 : ∀ j, j < 4 → wr.cell? ⟨g3, o3 + j, none⟩ = some (.int .i64 (zs.getD j 0)) := fun j hj => hc3 j _ (by
          rw [ienc_map, List.getElem?_map, List.getD_eq_getElem?_getD, List.getElem?_eq_getElem (by omega)]; rfl)
        have A0 := nums_get hN.out (j := 0) (by omega)
        have r0 := hc4 0 (by omega)
        have A1 := nums_get hN.out (j := 1) (by omega)
        have r1 := hc4 1 (by omega)
        have A2 := nums_get hN.out (j := 2) (by omega)
        have r2 := hc4 2 (by omega)
        have A3 := nums_get hN.out (j := 3) (by omega)
        have r3 := hc4 3 (by omega)
        rw [hz4] at hcv ⊢
        obtain ⟨n0, hn0⟩ : ∃ n, n = zs.getD 0 0 := ⟨_, rfl⟩
        rw [← hn0] at A0 r0
        obtain ⟨n1, hn1⟩ : ∃ n, n = zs.getD 1 0 := ⟨_, rfl⟩
        rw [← hn1] at A1 r1
        obtain ⟨n2, hn2⟩ : ∃ n, n = zs.getD 2 0 := ⟨_, rfl⟩
        rw [← hn2] at A2 r2
        obtain ⟨n3, hn3⟩ : ∃ n, n = zs.getD 3 0 := ⟨_, rfl⟩
        rw [← hn3] at A3 r3
        rw [Nat.add_zero] at r0
        have hxne : x ≠ ByteArray.empty := fun e => by
          have h5 := Hm.out
          rw [Hfs.out, e, fields_nil] at h5
          cases h5
        have HA := Lib.hid (mv_end hxne (fun m' hm e => by rw [Hfs.out, e]; exact mv_fields hm) A0 A1 A2 A3)
        have mg3 : wr.heap.size ≠ g3 := by omega
        have hBr := hB1.keep HB1.out
        clear hc3 hc4 hr3 A0 A1 A2 A3 hn0 hn1 hn2 hn3 hxne
        go_wp2_with fail
        go_region
        obtain ⟨W4, hW4⟩ : ∃ W4, W4 = (wr.alloc (.cells #[.int .i64 n0, .int .i64 n1, .int .i64 n2, .int .i64 n3] 56)).drew := ⟨_, rfl⟩
        have hE4 : Ext wr W4 := by rw [hW4]; exact ((Ext.refl wr).alloc _).drew
        have hB4 : Blk W4 wr.heap.size 56 #[.int .i64 n0, .int .i64 n1, .int .i64 n2, .int .i64 n3] := by rw [hW4]; exact (Blk.new _ _ _).drew
        rw [← hW4]
        clear hW4 r0 r1 r2 r3
        have b0 : W4.cell? ⟨wr.heap.size, 0, none⟩ = some (.int .i64 n0) := hB4.cell 0
        have b1 : W4.cell? ⟨wr.heap.size, 1, none⟩ = some (.int .i64 n1) := hB4.cell 1
        have b2 : W4.cell? ⟨wr.heap.size, 2, none⟩ = some (.int .i64 n2) := hB4.cell 2
        have b3 : W4.cell? ⟨wr.heap.size, 3, none⟩ = some (.int .i64 n3) := hB4.cell 3
        have cF := Lib.hid (spec_MoveText (⟨n0, n1, n2, n3⟩ : GMove) W4)
        obtain ⟨T2, hT2⟩ : ∃ T2, T2 = moveT (⟨n0, n1, n2, n3⟩ : GMove) := ⟨_, rfl⟩
        rw [← hT2] at cF HA
        have HT2 := Lib.hid hT2
        have HE4 := Lib.hid hE4
        have HB4 := Lib.hid hB4
        have HBR := Lib.hid hBr
        have l4 := HB4.out.lt
        have z4 := hE4.size
        have hwr : w.heap.size < wr.heap.size := hBr.lt
        clear hE4 hB4 hT2 hBr
        cases hq : (T2.toList == x.toList)
        case false =>
          have HN := Lib.hid (HA.out.2 hq)
          go_wp2_with (go_at_call 88; refine cF.out.mono ?_; rintro e w5 ⟨rfl, hb5⟩; have HB5 := Lib.hid hb5; have D5 := Lib.hid (HBR.out.keep (HE4.out.trans hb5)); have d0 := D5.out.cell 0; have d1 := D5.out.cell 1; have d2 := D5.out.cell 2; have d3 := D5.out.cell 3; have dz : ∀ o, w5.frozen? ⟨w.heap.size, o, none⟩ = false := fun o => D5.out.free o; have z5 := hb5.size; have m5 : w5.heap.size ≠ w.heap.size := (by omega); have l5 : w.heap.size < w5.heap.size := (by omega); clear hb5)
          obtain ⟨WF, hWF⟩ : ∃ WF, WF = set4 w5 w.heap.size (.int .i64 0) (.int .i64 0) (.int .i64 0) (.int .i64 0) := ⟨_, rfl⟩
          have FB := set4_blk D5.out (.int .i64 0) (.int .i64 0) (.int .i64 0) (.int .i64 0)
          have FE := set4_ext (HE1.out.trans (HB1.out.trans (HE4.out.trans HB5.out))) (Nat.le_refl _) (.int .i64 0) (.int .i64 0) (.int .i64 0) (.int .i64 0)
          rw [← hWF] at FB FE
          unfold set4 at hWF
          rw [← hWF]
          clear hWF
          have y0 := FB.cell 0
          have y1 := FB.cell 1
          have y2 := FB.cell 2
          have y3 := FB.cell 3
          refine bodyPost_ret (v := .tuple #[.agg #[.int .i64 0, .int .i64 0, .int .i64 0, .int .i64 0], .bool false]) (by simp [results, Tryz.results100, go_sem, y0, y1, y2, y3]) rfl (pm_none HN.out FE)
        case true =>
          have HY := Lib.hid (HA.out.1 hq)
          go_wp2_with (go_at_call 88; refine cF.out.mono ?_; rintro e w5 ⟨rfl, hb5⟩; have HB5 := Lib.hid hb5; have z5 := hb5.size; have x0 := (hb5.cellAt wr.heap.size HB4.out.lt 0).trans b0; have x1 := (hb5.cellAt wr.heap.size HB4.out.lt 1).trans b1; have x2 := (hb5.cellAt wr.heap.size HB4.out.lt 2).trans b2; have x3 := (hb5.cellAt wr.heap.size HB4.out.lt 3).trans b3; have D5 := Lib.hid (HBR.out.keep (HE4.out.trans hb5)); have d0 := D5.out.cell 0; have d1 := D5.out.cell 1; have d2 := D5.out.cell 2; have d3 := D5.out.cell 3; have dz : ∀ o, w5.frozen? ⟨w.heap.size, o, none⟩ = false := fun o => D5.out.free o; have m5 : w5.heap.size ≠ w.heap.size := (by omega); have l5 : w.heap.size < w5.heap.size := (by omega); clear hb5)
          obtain ⟨WF, hWF⟩ : ∃ WF, WF = set4 w5 w.heap.size (.int .i64 n0) (.int .i64 n1) (.int .i64 n2) (.int .i64 n3) := ⟨_, rfl⟩
          have FB := set4_blk D5.out (.int .i64 n0) (.int .i64 n1) (.int .i64 n2) (.int .i64 n3)
          have FE := set4_ext (HE1.out.trans (HB1.out.trans (HE4.out.trans HB5.out))) (Nat.le_refl _) (.int .i64 n0) (.int .i64 n1) (.int .i64 n2) (.int .i64 n3)
          rw [← hWF] at FB FE
          unfold set4 at hWF
          rw [← hWF]
          clear hWF
          have y0 := FB.cell 0
          have y1 := FB.cell 1
          have y2 := FB.cell 2
          have y3 := FB.cell 3
          refine bodyPost_ret (v := .tuple #[.agg #[.int .i64 n0, .int .i64 n1, .int .i64 n2, .int .i64 n3], .bool true]) (by simp [results, Tryz.results100, go_sem, y0, y1, y2, y3]) rfl (pm_some (⟨n0, n1, n2, n3⟩ : GMove) HY.out.1 (HY.out.2.trans HT2.out) FE)
end Go.Proofs.YtkelmeemblmggaaGreatDoor
/- The program's ParseMove; no condition but what stands at each theorem. -/
namespace Go.Proofs.YtkelmeemblmggaaGreatDoor
set_option linter.unusedSimpArgs false
set_option linter.unusedVariables false
open Go.RowKit Go.Sort
theorem bas_of {L : List ByteArray} {fs : List (List UInt8)} (h : L.map (·.data.toList) = fs) : L = bas fs := by
  subst h
  unfold bas
  rw [List.map_map]
  conv => lhs; rw [← List.map_id L]
  exact List.map_congr_left (fun l _ => by simp)
theorem bas_sval (fs : List (List UInt8)) : (bas fs).map Value.string = sval fs := by
  unfold bas sval
  rw [List.map_map]
  rfl
theorem cuts_empty : cuts 32 ByteArray.empty.data.toList = [[]] := rfl
theorem mv_lenC {x : ByteArray} (h : (cuts 32 x.data.toList).length ≠ 5) : ∀ m', mvB m' = true → x ≠ moveT m' := by
  rintro m' hm rfl
  rw [mv_cuts hm] at h
  exact h rfl
set_option maxRecDepth 100000 in
set_option maxHeartbeats 4000000 in
theorem impl_ParseMove (x : ByteArray) (w : World) (hx : x.size ≤ 1048576) (hM : Hid (∃ m, w.cell? ⟨0, 0, none⟩ = some (.int .i64 m))) : Calls Tryz.prog 80 #[.string x] w (PMPost x w) := by
  obtain ⟨wa, hwa⟩ : ∃ wa, wa = w.alloc (.cells #[.int .i64 0, .int .i64 0, .int .i64 0, .int .i64 0] 56) := ⟨_, rfl⟩
  have hEa : Ext w wa := by rw [hwa]; exact (Ext.refl w).alloc _
  have hsa : wa.heap.size = w.heap.size + 1 := by rw [hwa]; simp
  have hB : Blk wa w.heap.size 56 #[.int .i64 0, .int .i64 0, .int .i64 0, .int .i64 0] := by rw [hwa]; exact Blk.new _ _ _
  have Hwa := Lib.hid hwa
  have HEa := Lib.hid hEa
  obtain ⟨mm, hm0⟩ := hM
  have hm1 : wa.cell? ⟨0, 0, none⟩ = some (.int .i64 mm) := (hEa.cellAt _ (World.block_lt_of_cell? w _ hm0) 0).trans hm0
  have cS := Lib.hid (Tryz.strings_Split x ⟨#[32]⟩ mm wa (by omega) hm1 (by decide))
  clear hwa hEa hm0 hm1
  go_enter Tryz.func80, Tryz.ntmps80
  go_wp2_with fail
  rw [← Hwa.out]
  refine cS.out.mono ?_
  rintro e w1 ⟨rfl, hw1⟩
  obtain ⟨fs, hfs⟩ : ∃ fs, fs = cuts 32 x.data.toList := ⟨_, rfl⟩
  have hbs := bas_of (splitB_cuts 32 x)
  have hfn : Lib.countB x ⟨#[32]⟩ + 1 = fs.length := by rw [← Lib.splitB_all ⟨#[32]⟩ (by decide) 0 _ x rfl, hbs, bas_len, hfs]
  rw [hfn]
  rw [hbs, ← hfs] at hw1
  have hb1 : Ext wa w1 := by rw [hw1]; exact (Ext.refl _).alloc _
  have hcell : ∀ j u, (sval fs)[j]? = some u → w1.cell? ⟨wa.heap.size, 0 + j, none⟩ = some u := fun j u hu => by
    rw [hw1, World.cell?_alloc_new, Nat.zero_add]
    rw [← bas_sval] at hu
    simpa using hu
  have hg : wa.heap.size < w1.heap.size := by rw [hw1]; simp
  obtain ⟨g, hgg⟩ : ∃ g, g = wa.heap.size := ⟨_, rfl⟩
  rw [← hgg] at hcell hg ⊢
  have Hcell := Lib.hid hcell
  have hB1 := hB.keep hb1
  have hs1 := hb1.size
  have HE1 := Lib.hid (HEa.out.trans hb1)
  have l0 : w.heap.size < w1.heap.size := by omega
  have m0 : w1.heap.size ≠ w.heap.size := by omega
  have hgw : w1.heap.size ≠ g := by omega
  have c0 : w1.cell? ⟨w.heap.size, 0, none⟩ = some (.int .i64 0) := hB1.cell 0
  have c1 : w1.cell? ⟨w.heap.size, 1, none⟩ = some (.int .i64 0) := hB1.cell 1
  have c2 : w1.cell? ⟨w.heap.size, 2, none⟩ = some (.int .i64 0) := hB1.cell 2
  have c3 : w1.cell? ⟨w.heap.size, 3, none⟩ = some (.int .i64 0) := hB1.cell 3
  have fz : ∀ o, w1.frozen? ⟨w.heap.size, o, none⟩ = false := fun o => hB1.free o
  have hfl : ∀ l ∈ fs, l.length ≤ x.size := fun l hl => by
    have := cuts_len 32 x.data.toList l (by rw [← hfs]; exact hl)
    rwa [toList_size] at this
  have hfp : 1 ≤ fs.length := by omega
  have Hfl := Lib.hid hfl
  have Hfs := Lib.hid hfs
  clear hb1 hB hw1 hbs hfn hcell hfl hfs
  obtain rfl : g = w.heap.size + 1 := by omega
  clear hgg
  by_cases hm : fs.length = 5
  case neg =>
    have HN : Hid (∀ m', mvB m' = true → x ≠ moveT m') := mv_lenC (by rw [← Hfs.out]; exact hm)
    have hne : ((fs.length : Int) == 5) = false := beq_false_of_ne (by omega)
    clear hm
    go_wp2_with fail
    obtain ⟨WF, hWF⟩ : ∃ WF, WF = set4 w1 w.heap.size (.int .i64 0) (.int .i64 0) (.int .i64 0) (.int .i64 0) := ⟨_, rfl⟩
    have FB := set4_blk hB1 (.int .i64 0) (.int .i64 0) (.int .i64 0) (.int .i64 0)
    have FE := set4_ext HE1.out (Nat.le_refl _) (.int .i64 0) (.int .i64 0) (.int .i64 0) (.int .i64 0)
    rw [← hWF] at FB FE
    unfold set4 at hWF
    rw [← hWF]
    clear hWF
    have y0 := FB.cell 0
    have y1 := FB.cell 1
    have y2 := FB.cell 2
    have y3 := FB.cell 3
    refine bodyPost_ret (v := .tuple #[.agg #[.int .i64 0, .int .i64 0, .int .i64 0, .int .i64 0], .bool false]) (by simp [results, Tryz.results80, go_sem, y0, y1, y2, y3]) rfl (pm_none HN.out FE)
  case pos =>
    have Hm := Lib.hid hm
    rw [hm]
    clear hm
    obtain ⟨A28, c28, h28, hsl⟩ := tail_of (w.heap.size + 1) 0 4 5 (by omega)
    obtain rfl := h28 (by omega)
    clear h28
    go_wp2_with fail
    clear hsl
    obtain ⟨wo, hwo⟩ : ∃ wo, wo = w1.alloc (.cells #[] 3) := ⟨_, rfl⟩
    rw [← hwo]
    have hEo : Ext w1 wo := by rw [hwo]; exact (Ext.refl w1).alloc _
    have Ho0 : Hid (wo.ownsRow w1.heap.size 3 1 (.slice (some ⟨w1.heap.size, 0, none⟩) 0 0) 0 []) := by rw [hwo]; exact own_empty w1 w1.heap.size 3 1 (Nat.le_refl _)
    have HEo := Lib.hid hEo
    have hso := hEo.size
    clear hwo hEo
    go_loopw [5, 21] (fun v i wr => ∃ (k : Nat) (zs : List Int), k ≤ 4 ∧ i = .int .i64 k ∧ zs.length = k ∧ Hid (wr.ownsRow w1.heap.size 3 1 v zs.length (zs.flatMap ienc)) ∧ Hid (NumsOf fs zs) ∧ Ext w1 wr) (fun _ i _ => 4 - (intOf i).toNat)
    case atStart => exact ⟨0, [], by omega, rfl, rfl, Ho0, Lib.hid (fun j f z hz => by simp at hz), HEo.out⟩
    case round =>
      obtain ⟨k, zs, hkm, rfl, hzl, hown, hN, hb⟩ := hrel
      have HB1 := Lib.hid hb
      have hsw := hb.size
      clear hb
      by_cases hlt : k < 4
      · obtain ⟨f, hf⟩ : ∃ f, fs[k + 1]? = some f := ⟨fs[k + 1]'(by rw [Hm.out]; omega), List.getElem?_eq_getElem (by rw [Hm.out]; omega)⟩
        have hfl := Hfl.out f (List.mem_of_getElem? hf)
        have q1 : wr.cell? ⟨w.heap.size + 1, 1 + k, none⟩ = some (.string ⟨f.toArray⟩) := by
          rw [Nat.add_comm 1 k, ← Nat.zero_add (k + 1)]
          exact (HB1.out.cellAt (w.heap.size + 1) hg (0 + (k + 1))).trans (Hcell.out (k + 1) _ (by rw [sval, List.getElem?_map, hf]; rfl))
        have hNs := Lib.hid (fun (z : Int) (hz : NumOf f z) => nums_snoc hN.out (by rw [show zs.length = k from hzl]; exact hf) hz)
        obtain ⟨F, hF⟩ : ∃ F : ByteArray, F = ⟨f.toArray⟩ := ⟨_, rfl⟩
        have hFs : F.size ≤ 1048576 := by rw [hF, mk_size]; omega
        have HFF := Lib.hid hF
        rw [← hF] at q1
        clear hf hF
        have cN := Lib.hid (impl_ParseUint F wr (by omega))
        have hgr : wr.heap.size ≠ w.heap.size + 1 := by omega
        have hgl : w.heap.size + 1 < wr.heap.size := by omega
        have hkl : zs.length ≤ 5 := by omega
        have hki : (k : Int) < 4 := by omega
        go_wp2_with (first
          | (go_at_call 135; refine cN.out.mono ?_; rintro e w2 ⟨z, b, rfl, hz9, hb2, hz⟩; have HB2 := Lib.hid hb2; have hs2 := hb2.size; have HZ := Lib.hid hz; clear hb2 hz)
          | (at_builtin; refine append1 ei_N rfl _ _ rfl w1.heap.size w2 _ _ zs.length _ (by rfl) (own_keep hown.out HB2.out) [.int .i64 z] (by rfl) rfl (one_intN _) (by omega) (by omega) ?_; intro v' w3 ho3 he3; have HO3 := Lib.hid ho3; have HE3 := Lib.hid (he3 w1 (HB1.out.trans HB2.out) (Nat.le_refl _)); clear ho3 he3))
        go_roundw
        case rel => exact ⟨k + 1, zs ++ [(z : Int)], by omega, by go_num, by simp; omega, by (unfold Hid; rw [List.length_append, List.flatMap_append]; exact HO3.out), hNs.out (z : Int) (fun i hi he => by have h := (HZ.out i hi (by rw [HFF.out]; exact he)).1; show z = (i : Int); omega), HE3.out⟩
        case measure => simp [intOf] <;> omega
      · obtain rfl : k = 4 := by omega
        have hz4 : zs.length = 4 := hzl
        have hki : ¬ ((4 : Nat) : Int) < 4 := by omega
        obtain ⟨Av, cv, rfl, hcv⟩ := own_form hown.out
        obtain ⟨-, -, hr3⟩ := Rd.of_own hown.out
        obtain ⟨g3, o3, rfl, hg3, hc3⟩ := hr3 (by omega)
        have hc4 : ∀ j, j < 4 → wr.cell? ⟨g3, o3 + j, none⟩ = some (.int .i64 (zs.getD j 0)) := fun j hj => hc3 j _ (by
          rw [ienc_map, List.getElem?_map, List.getD_eq_getElem?_getD, List.getElem?_eq_getElem (by omega)]; rfl)
        have A0 := nums_get hN.out (j := 0) (by omega)
        have r0 := hc4 0 (by omega)
        have A1 := nums_get hN.out (j := 1) (by omega)
        have r1 := hc4 1 (by omega)
        have A2 := nums_get hN.out (j := 2) (by omega)
        have r2 := hc4 2 (by omega)
        have A3 := nums_get hN.out (j := 3) (by omega)
        have r3 := hc4 3 (by omega)
        rw [hz4] at hcv ⊢
        obtain ⟨n0, hn0⟩ : ∃ n, n = zs.getD 0 0 := ⟨_, rfl⟩
        rw [← hn0] at A0 r0
        obtain ⟨n1, hn1⟩ : ∃ n, n = zs.getD 1 0 := ⟨_, rfl⟩
        rw [← hn1] at A1 r1
        obtain ⟨n2, hn2⟩ : ∃ n, n = zs.getD 2 0 := ⟨_, rfl⟩
        rw [← hn2] at A2 r2
        obtain ⟨n3, hn3⟩ : ∃ n, n = zs.getD 3 0 := ⟨_, rfl⟩
        rw [← hn3] at A3 r3
        rw [Nat.add_zero] at r0
        have hxne : x ≠ ByteArray.empty := fun e => by
          have h5 := Hm.out
          rw [Hfs.out, e, cuts_empty] at h5
          cases h5
        have HA := Lib.hid (mv_end hxne (fun m' hm e => by rw [Hfs.out, e]; exact mv_cuts hm) A0 A1 A2 A3)
        have mg3 : wr.heap.size ≠ g3 := by omega
        have hBr := hB1.keep HB1.out
        clear hc3 hc4 hr3 A0 A1 A2 A3 hn0 hn1 hn2 hn3 hxne
        go_wp2_with fail
        go_region
        obtain ⟨W4, hW4⟩ : ∃ W4, W4 = (wr.alloc (.cells #[.int .i64 n0, .int .i64 n1, .int .i64 n2, .int .i64 n3] 56)).drew := ⟨_, rfl⟩
        have hE4 : Ext wr W4 := by rw [hW4]; exact ((Ext.refl wr).alloc _).drew
        have hB4 : Blk W4 wr.heap.size 56 #[.int .i64 n0, .int .i64 n1, .int .i64 n2, .int .i64 n3] := by rw [hW4]; exact (Blk.new _ _ _).drew
        rw [← hW4]
        clear hW4 r0 r1 r2 r3
        have b0 : W4.cell? ⟨wr.heap.size, 0, none⟩ = some (.int .i64 n0) := hB4.cell 0
        have b1 : W4.cell? ⟨wr.heap.size, 1, none⟩ = some (.int .i64 n1) := hB4.cell 1
        have b2 : W4.cell? ⟨wr.heap.size, 2, none⟩ = some (.int .i64 n2) := hB4.cell 2
        have b3 : W4.cell? ⟨wr.heap.size, 3, none⟩ = some (.int .i64 n3) := hB4.cell 3
        have cF := Lib.hid (impl_MoveText (⟨n0, n1, n2, n3⟩ : GMove) W4)
        obtain ⟨T2, hT2⟩ : ∃ T2, T2 = moveT (⟨n0, n1, n2, n3⟩ : GMove) := ⟨_, rfl⟩
        rw [← hT2] at cF HA
        have HT2 := Lib.hid hT2
        have HE4 := Lib.hid hE4
        have HB4 := Lib.hid hB4
        have HBR := Lib.hid hBr
        have l4 := HB4.out.lt
        have z4 := hE4.size
        have hwr : w.heap.size < wr.heap.size := hBr.lt
        clear hE4 hB4 hT2 hBr
        cases hq : (T2.toList == x.toList)
        case false =>
          have HN := Lib.hid (HA.out.2 hq)
          go_wp2_with (go_at_call 93; refine cF.out.mono ?_; rintro e w5 ⟨rfl, hb5⟩; have HB5 := Lib.hid hb5; have z5 := hb5.size; have x0 := (hb5.cellAt wr.heap.size HB4.out.lt 0).trans b0; have x1 := (hb5.cellAt wr.heap.size HB4.out.lt 1).trans b1; have x2 := (hb5.cellAt wr.heap.size HB4.out.lt 2).trans b2; have x3 := (hb5.cellAt wr.heap.size HB4.out.lt 3).trans b3; have D5 := Lib.hid (HBR.out.keep (HE4.out.trans hb5)); have d0 := D5.out.cell 0; have d1 := D5.out.cell 1; have d2 := D5.out.cell 2; have d3 := D5.out.cell 3; have dz : ∀ o, w5.frozen? ⟨w.heap.size, o, none⟩ = false := fun o => D5.out.free o; have m5 : w5.heap.size ≠ w.heap.size := (by omega); have l5 : w.heap.size < w5.heap.size := (by omega); clear hb5)
          obtain ⟨WF, hWF⟩ : ∃ WF, WF = set4 w5 w.heap.size (.int .i64 0) (.int .i64 0) (.int .i64 0) (.int .i64 0) := ⟨_, rfl⟩
          have FB := set4_blk D5.out (.int .i64 0) (.int .i64 0) (.int .i64 0) (.int .i64 0)
          have FE := set4_ext (HE1.out.trans (HB1.out.trans (HE4.out.trans HB5.out))) (Nat.le_refl _) (.int .i64 0) (.int .i64 0) (.int .i64 0) (.int .i64 0)
          rw [← hWF] at FB FE
          unfold set4 at hWF
          rw [← hWF]
          clear hWF
          have y0 := FB.cell 0
          have y1 := FB.cell 1
          have y2 := FB.cell 2
          have y3 := FB.cell 3
          refine bodyPost_ret (v := .tuple #[.agg #[.int .i64 0, .int .i64 0, .int .i64 0, .int .i64 0], .bool false]) (by simp [results, Tryz.results80, go_sem, y0, y1, y2, y3]) rfl (pm_none HN.out FE)
        case true =>
          have HY := Lib.hid (HA.out.1 hq)
          go_wp2_with (go_at_call 93; refine cF.out.mono ?_; rintro e w5 ⟨rfl, hb5⟩; have HB5 := Lib.hid hb5; have z5 := hb5.size; have x0 := (hb5.cellAt wr.heap.size HB4.out.lt 0).trans b0; have x1 := (hb5.cellAt wr.heap.size HB4.out.lt 1).trans b1; have x2 := (hb5.cellAt wr.heap.size HB4.out.lt 2).trans b2; have x3 := (hb5.cellAt wr.heap.size HB4.out.lt 3).trans b3; have D5 := Lib.hid (HBR.out.keep (HE4.out.trans hb5)); have d0 := D5.out.cell 0; have d1 := D5.out.cell 1; have d2 := D5.out.cell 2; have d3 := D5.out.cell 3; have dz : ∀ o, w5.frozen? ⟨w.heap.size, o, none⟩ = false := fun o => D5.out.free o; have m5 : w5.heap.size ≠ w.heap.size := (by omega); have l5 : w.heap.size < w5.heap.size := (by omega); clear hb5)
          obtain ⟨WF, hWF⟩ : ∃ WF, WF = set4 w5 w.heap.size (.int .i64 n0) (.int .i64 n1) (.int .i64 n2) (.int .i64 n3) := ⟨_, rfl⟩
          have FB := set4_blk D5.out (.int .i64 n0) (.int .i64 n1) (.int .i64 n2) (.int .i64 n3)
          have FE := set4_ext (HE1.out.trans (HB1.out.trans (HE4.out.trans HB5.out))) (Nat.le_refl _) (.int .i64 n0) (.int .i64 n1) (.int .i64 n2) (.int .i64 n3)
          rw [← hWF] at FB FE
          unfold set4 at hWF
          rw [← hWF]
          clear hWF
          have y0 := FB.cell 0
          have y1 := FB.cell 1
          have y2 := FB.cell 2
          have y3 := FB.cell 3
          refine bodyPost_ret (v := .tuple #[.agg #[.int .i64 n0, .int .i64 n1, .int .i64 n2, .int .i64 n3], .bool true]) (by simp [results, Tryz.results80, go_sem, y0, y1, y2, y3]) rfl (pm_some (⟨n0, n1, n2, n3⟩ : GMove) HY.out.1 (HY.out.2.trans HT2.out) FE)
end Go.Proofs.YtkelmeemblmggaaGreatDoor
/- The walk of the law of ParseMove; no condition but what stands at each theorem. -/
namespace Go.Proofs.YtkelmeemblmggaaGreatDoor
set_option linter.unusedSimpArgs false
set_option linter.unusedVariables false
open Go.RowKit Go.Sort
theorem max_ext {w w' : World} {g : Nat} (h : ∃ m, w.cell? ⟨g, 0, none⟩ = some (.int .i64 m)) (e : Ext w w') : ∃ m, w'.cell? ⟨g, 0, none⟩ = some (.int .i64 m) := by
  obtain ⟨m, h⟩ := h
  exact ⟨m, (e.cellAt _ (World.block_lt_of_cell? w _ h) 0).trans h⟩
end Go.Proofs.YtkelmeemblmggaaGreatDoor
/- Contract of the program's ReplayMoves; no condition but what stands at each theorem. -/
namespace Go.Proofs.YtkelmeemblmggaaGreatDoor
set_option linter.unusedSimpArgs false
set_option linter.unusedVariables false
open Go.RowKit Go.Sort
set_option maxRecDepth 100000 in
set_option maxHeartbeats 4000000 in
theorem impl_ReplayMoves (H : Int) (A : Option Addr) (n c : Nat) (ds : List GDoor) (A1 : Option Addr) (n1 c1 : Nat) (ps : List Int) (A2 : Option Addr) (n2 c2 : Nat) (ms : List GMove) (w : World) (hx : Rd w 2 A n (ds.flatMap GDoor.enc)) (hx1 : Rd w 1 A1 n1 (ps.flatMap ienc)) (hx2 : Rd w 4 A2 n2 (ms.flatMap GMove.enc)) (hnc : Hid (A1 = none → c1 = 0)) (hn1 : n1 ≤ 1048576) :
    Calls Tryz.prog 81 #[.agg #[.int .i64 H, .slice A n c], .slice A1 n1 c1, .slice A2 n2 c2] w (ListBool (replayL H ds ps ms).1 (replayL H ds ps ms).2 w) := by
  have hn2 := hx2.2.1
  have hl1 := Lib.hid (hx1.len ienc_len (by omega))
  have hl2 := Lib.hid (hx2.len GMove.len (by omega))
  obtain ⟨wb, hwb⟩ : ∃ wb, wb = w.alloc (.cells #[.int .i64 H, .slice A n c] 26) := ⟨_, rfl⟩
  obtain ⟨hE, hsb, a0, a1⟩ := box2 w _ _ _ wb hwb
  have HE := Lib.hid hE
  have Hwb := Lib.hid hwb
  have Ha0 := Lib.hid a0
  have Ha1 := Lib.hid a1
  have hxb := Lib.hid (hx.keep hE)
  have hxb1 := Lib.hid (hx1.keep hE)
  have hxb2 := Lib.hid (hx2.keep hE)
  have hbl : w.heap.size < wb.heap.size := by omega
  clear hE hwb a0 a1 hx hx1 hx2
  go_enter Tryz.func81, Tryz.ntmps81
  go_wp2_with (at_builtin; refine (fun h : Hid _ => h.out) ?_)
  unfold Hid
  rw [← Hwb.out]
  refine appendRdN ei_I rfl _ _ rfl wb.heap.size _ _ 0 [] (by rw [hsb]; rfl) (own_empty wb wb.heap.size 3 1 (Nat.le_refl _)) A1 n1 c1 (ps.flatMap ienc) (by rfl) (hxb1.out.alloc _) hnc.out (one_ienc _) (by omega) (by simp) (by intro h; cases h) ?_
  intro g c' w1
  rw [Nat.zero_add, List.nil_append]
  intro ho he
  have HO1 := Lib.hid ho
  have HE1 := Lib.hid (he wb ((Ext.refl wb).alloc _) (Nat.le_refl _))
  clear ho he
  have cP := Lib.hid (impl_PlacesOk H A n c ds A1 n1 c1 ps w1 (hxb.out.keep HE1.out) (hxb1.out.keep HE1.out))
  have a0 := (HE1.out.cellAt w.heap.size hbl 0).trans Ha0.out
  have a1 := (HE1.out.cellAt w.heap.size hbl 1).trans Ha1.out
  cases hok : (placesB H ds ps && decide (n2 ≤ 30))
  case false =>
    have HL : Hid (replayL H ds ps ms = (ps, false)) := by unfold Hid replayL; rw [hl2.out, hok]; rfl
    cases hP : placesB H ds ps
    case false =>
      rw [hP] at cP
      clear hok hP
      go_wp2_with fail
      refine cP.out.mono ?_
      rintro e w2 ⟨rfl, he2⟩
      have HE2 := Lib.hid (Ext.trans HE1.out he2)
      have HO2 := Lib.hid (own_keep HO1.out he2)
      clear he2 a0 a1
      go_wp2_with fail
      go_ret2
      exact ⟨.slice (some ⟨g, 0, none⟩) n1 c', (by rw [HL.out]; rfl), HE.out.trans HE2.out, by rw [HL.out, hl1.out]; exact own_weak HO2.out (by omega)⟩
    case true =>
      have h30 : ¬ n2 ≤ 30 := by rw [hP] at hok; simpa using hok
      rw [hP] at cP
      clear hok hP
      go_wp2_with fail
      refine cP.out.mono ?_
      rintro e w2 ⟨rfl, he2⟩
      have HE2 := Lib.hid (Ext.trans HE1.out he2)
      have HO2 := Lib.hid (own_keep HO1.out he2)
      clear he2 a0 a1
      go_wp2_with fail
      go_ret2
      exact ⟨.slice (some ⟨g, 0, none⟩) n1 c', (by rw [HL.out]; rfl), HE.out.trans HE2.out, by rw [HL.out, hl1.out]; exact own_weak HO2.out (by omega)⟩
  case true =>
    obtain ⟨hP, h30⟩ : placesB H ds ps = true ∧ n2 ≤ 30 := by simpa using hok
    have HL : Hid (replayL H ds ps ms = replayF H ds ps ps ms) := by unfold Hid replayL; rw [hl2.out, hok]; rfl
    rw [hP] at cP
    clear hok hP
    go_wp2_with fail
    refine cP.out.mono ?_
    rintro e w2 ⟨rfl, he2⟩
    have HE2 := Lib.hid (Ext.trans HE1.out he2)
    have HO2 := Lib.hid (own_keep HO1.out he2)
    clear he2 a0 a1
    go_wp2_with fail
    go_loopw [26] (fun i wr => ∃ (k : Nat) (u : List Int), k ≤ n2 ∧ i = .int .i64 k ∧ wr.ownsRow wb.heap.size 3 1 (.slice (some ⟨g, 0, none⟩) n1 c') n1 (u.flatMap ienc) ∧ Hid (u.length = n1) ∧ Hid (replayF H ds ps ps ms = replayF H ds ps u (ms.drop k)) ∧ Ext wb wr) (fun i _ => n2 - (intOf i).toNat)
    case atStart => exact ⟨0, ps, Nat.zero_le _, rfl, HO2.out, hl1, rfl, HE2.out⟩
    case round =>
      obtain ⟨k, u, hk, rfl, hown, hul, hz, hb⟩ := hrel
      have HO := Lib.hid hown
      have HB := Lib.hid hb
      have a0 := (hb.cellAt w.heap.size hbl 0).trans Ha0.out
      have a1 := (hb.cellAt w.heap.size hbl 1).trans Ha1.out
      have hbr := hb.size
      have m0 : wr.heap.size ≠ w.heap.size := by omega
      have l0 : w.heap.size < wr.heap.size := by omega
      by_cases hlt : k < n2
      · obtain ⟨b, off, m, rfl, hbs, hmk, p0, p1, p2, p3⟩ := GMove.at_ (hxb2.out.keep hb) hlt
        have HD := Lib.hid (drop_cons hmk)
        clear hmk hb hown
        go_wp2_with fail
        obtain ⟨wd, hwd⟩ : ∃ wd, wd = wr.alloc (.cells #[.int .i64 m.o, .int .i64 m.t, .int .i64 m.f, .int .i64 m.s] 56) := ⟨_, rfl⟩
        rw [← hwd]
        obtain ⟨hEd, hsd, b0, b1, b2, b3⟩ := box4 wr _ _ _ _ _ wd hwd
        have HBd := Lib.hid (HB.out.trans hEd)
        have HOd := Lib.hid (own_keep HO.out hEd)
        have cG := Lib.hid (impl_canGo H A n c ds (some ⟨g, 0, none⟩) n1 c' u m wd (hxb.out.keep HBd.out) (Rd.of_own HOd.out))
        clear hwd a0 a1
        have hsw : w.heap.size + 1 ≤ wb.heap.size := by omega
        cases hG : goB H ds u m
        case false =>
          rw [hG] at cG
          have HF : Hid (replayF H ds ps ps ms = (ps, false)) := by unfold Hid; rw [hz.out, HD.out, replayF, hG]; rfl
          clear hG
          refine cG.out.mono ?_
          rintro e w3 ⟨rfl, he3⟩
          have HE3 := Lib.hid (HBd.out.trans he3)
          clear he3 hEd b0 b1 b2 b3
          go_wp2_with (at_builtin; refine (fun h : Hid _ => h.out) ?_)
          unfold Hid
          refine appendRdN ei_I rfl _ _ rfl w3.heap.size _ _ 0 [] (by rfl) (own_empty w3 w3.heap.size 3 1 (Nat.le_refl _)) A1 n1 c1 (ps.flatMap ienc) (by rfl) ((hxb1.out.keep HE3.out).alloc _) hnc.out (one_ienc _) (by omega) (by simp) (by intro h; cases h) ?_
          intro g2 c2' w4
          rw [Nat.zero_add, List.nil_append]
          intro ho4 he4
          have HO4 := Lib.hid ho4
          have HE4 := Lib.hid (he4 w3 ((Ext.refl w3).alloc _) (Nat.le_refl _))
          have hs3 := HE3.out.size
          clear ho4 he4
          go_wp2_with fail
          go_ret2
          exact ⟨.slice (some ⟨g2, 0, none⟩) n1 c2', (by rw [HL.out, HF.out]; rfl), HE.out.trans (HE3.out.trans HE4.out), by rw [HL.out, HF.out, hl1.out]; exact own_weak HO4.out (by omega)⟩
        case true =>
          rw [hG] at cG
          obtain ⟨ho0, ho1⟩ := goB_obj hG
          obtain ⟨j, hj⟩ := Int.eq_ofNat_of_zero_le ho0
          have hjn : j < n1 := by (have := hul.out; omega)
          have HF : Hid (replayF H ds ps ps ms = replayF H ds ps (u.set j m.t) (ms.drop (k + 1))) := by unfold Hid; rw [hz.out, HD.out, replayF, hG, hj]; rfl
          have Hb0 : Hid (wd.cell? ⟨wr.heap.size, 0, none⟩ = some (.int .i64 (j : Int))) := by unfold Hid; rw [b0, hj]
          have Hb1 := Lib.hid b1
          clear hG ho0 ho1 hj b0 b1 b2 b3
          refine cG.out.mono ?_
          rintro e w3 ⟨rfl, he3⟩
          have HE3 := Lib.hid (HBd.out.trans he3)
          have ho3 := own_keep HOd.out he3
          obtain ⟨g', hg', hbg, hblk⟩ := PBlk.of_own ho3 (by omega)
          injection hg' with hg'
          injection hg' with hg'
          subst hg'
          have HO3 := Lib.hid ho3
          have q0 := hblk.cell (i := j) (by rw [hul.out]; exact hjn)
          have q1 := hblk.free j
          have q2 := hblk.lt
          have b0 := (he3.cellAt wr.heap.size (by omega) 0).trans Hb0.out
          have b1 := (he3.cellAt wr.heap.size (by omega) 1).trans Hb1.out
          clear he3 hblk ho3 hEd
          go_wp2_with fail
          go_roundw
          case rel => exact ⟨k + 1, u.set j m.t, by omega, by go_num, own_set HO3.out j m.t, by unfold Hid; rw [List.length_set]; exact hul.out, HF, HE3.out.setCell hbg _⟩
          case measure => simp [intOf]; omega
      · obtain rfl : k = n2 := by omega
        clear a0 a1
        go_wp2_with fail
        go_ret2
        have hF : replayF H ds ps ps ms = (u, true) := by rw [hz.out, drop_nil (by rw [hl2.out]; omega)]; rfl
        exact ⟨.slice (some ⟨g, 0, none⟩) n1 c', (by rw [HL.out, hF]; rfl), HE.out.trans HB.out, by rw [HL.out, hF]; simp only; rw [hul.out]; exact own_weak HO.out (by omega)⟩
end Go.Proofs.YtkelmeemblmggaaGreatDoor
/- AuditMuseum and FirstFraud of the program; no condition but what stands at each theorem. -/
namespace Go.Proofs.YtkelmeemblmggaaGreatDoor
set_option linter.unusedSimpArgs false
set_option linter.unusedVariables false
open Go.RowKit Go.Sort
theorem ei_MoveA : EI Tryz.prog 106 56 4 := ei_of Tryz.underlying106 (by omega) (by kernel_rfl)
theorem one_GMoveA (x : GMove) : ∀ u ∈ x.enc, u.oneCell' = true := by
  intro u hu
  simp [GMove.enc] at hu
  rcases hu with rfl | rfl | rfl | rfl <;> rfl
theorem brok_txt : ∀ (rs : List GEntry) (s : Int) (p : Option Int) (k : Nat), brokF s p k rs = -1 → ∀ e ∈ rs, e.x.size ≤ 200
  | [], _, _, _, _, _, h => by cases h
  | e :: r, s, p, k, h, y, hy => by
    rw [brokF] at h
    split at h
    · omega
    · rename_i hc
      simp only [Bool.or_eq_true, not_or, decide_eq_true_eq] at hc
      rcases List.mem_cons.1 hy with rfl | hy
      · have h1 := hc.1
        unfold sealB at h1
        split at h1
        · rename_i h2
          simp only [Bool.and_eq_true, decide_eq_true_eq] at h2
          have h3 := h2.2.2
          unfold digest at h3
          split at h3
          · assumption
          · omega
        · omega
      · exact brok_txt r _ _ _ h y hy
theorem museum_txt {m : GMuseum} (h : museumB m = true) : ∀ e ∈ m.rs, e.x.size ≤ 200 := by
  have h7 := (museumB_parts.1 h).2.2.2.2.2.2.1
  unfold sealedB brokenI at h7
  simp only [Bool.and_eq_true, decide_eq_true_eq, beq_iff_eq] at h7
  exact brok_txt _ _ _ _ h7.2
theorem audit_no {m : GMuseum} {k : Nat} {e : GEntry} (hk : m.rs[k]? = some e) (hp : (parseM e.x).2 = false) : auditB m = false := by
  unfold auditB
  have : (m.rs.all fun e => (parseM e.x).2) = false := by
    rw [Bool.eq_false_iff, Ne, List.all_eq_true]
    intro h
    have := h e (List.mem_of_getElem? hk)
    rw [hp] at this
    cases this
  rw [this]
  simp
theorem audit_bad {m : GMuseum} (h : museumB m = false) : auditB m = false := by unfold auditB; rw [h]; rfl
theorem audit_is {m : GMuseum} (h : museumB m = true) (ha : (m.rs.all fun e => (parseM e.x).2) = true) : auditB m = ((replayL m.H m.ds m.fs (movesL m.rs)).2 && decide ((replayL m.H m.ds m.fs (movesL m.rs)).1 = m.ps)) := by
  unfold auditB; rw [h, ha]; rfl
theorem movesL_snoc {rs : List GEntry} {k : Nat} {e : GEntry} (h : rs[k]? = some e) : movesL (rs.take (k + 1)) = movesL (rs.take k) ++ [(parseM e.x).1] := by
  rw [take_snoc h]; simp [movesL]
theorem all_snocA {rs : List GEntry} {k : Nat} {e : GEntry} (h : rs[k]? = some e) (ha : ((rs.take k).all fun e => (parseM e.x).2) = true) (he : (parseM e.x).2 = true) : ((rs.take (k + 1)).all fun e => (parseM e.x).2) = true := by
  rw [take_snoc h, List.all_append, ha]; simp [he]
theorem eq_snoc {P Q : List Int} {k : Nat} {x y : Int} (hx : P[k]? = some x) (hy : Q[k]? = some y) (b : Bool) : (b && decide (P.take (k + 1) = Q.take (k + 1))) = ((b && decide (P.take k = Q.take k)) && (x == y)) := by
  rw [take_snoc hx, take_snoc hy, Bool.and_assoc]
  congr 1
  rw [Bool.eq_iff_iff]
  simp only [decide_eq_true_eq, Bool.and_eq_true, beq_iff_eq]
  constructor
  · intro h
    have := List.append_inj' h rfl
    exact ⟨this.1, by simpa using this.2⟩
  · rintro ⟨h1, h2⟩
    rw [h1, h2]
set_option maxRecDepth 100000 in
set_option maxHeartbeats 2000000 in
theorem impl_AuditMuseum (v : MV) (m : GMuseum) (w : World) (hx : MRd w v m) (hf : MFit v) (hM : Hid (∃ k, w.cell? ⟨0, 0, none⟩ = some (.int .i64 k))) :
    Calls Tryz.prog 21 #[v.val] w fun e w' => e = .returned (.bool (auditB m)) ∧ Ext w w' := by
  obtain ⟨wb, hwb⟩ : ∃ wb, wb = w.alloc (.cells v.cells 30) := ⟨_, rfl⟩
  have hbx := MBox.new hwb
  have hE : Ext w wb := by rw [hwb]; exact (Ext.refl w).alloc _
  have HX := Lib.hid (hx.keep hE)
  have HM := Lib.hid (max_ext hM.out hE)
  have cM := Lib.hid (impl_MuseumOk v m wb HX.out)
  obtain ⟨Hh, ⟨A0, n0, c0⟩, ⟨A1, n1, c1⟩, ⟨A2, n2, c2⟩, ⟨A3, n3, c3⟩, day, ⟨A4, n4, c4⟩⟩ := v
  have hxd : Hid (Rd wb 2 A0 n0 (m.ds.flatMap GDoor.enc)) := HX.out.rd
  have hxf : Hid (Rd wb 1 A1 n1 (m.fs.flatMap ienc)) := HX.out.rf
  have hxp : Hid (Rd wb 1 A2 n2 (m.ps.flatMap ienc)) := HX.out.rp
  have hxr : Hid (Rd wb 3 A4 n4 (m.rs.flatMap GEntry.enc)) := HX.out.rr
  have hzf : Hid (A1 = none → c1 = 0) := hf.zf
  have hnf : n1 ≤ 1048576 := hf.nf
  have hnr : n4 ≤ 1048576 := hf.nr
  have hnp : n2 ≤ 1048576 := hf.np
  have hl1 := Lib.hid (hxf.out.len ienc_len (by omega))
  have hl2 := Lib.hid (hxp.out.len ienc_len (by omega))
  have hl4 := Lib.hid (hxr.out.len GEntry.len (by omega))
  have hH : Hid (Hh = m.H) := hx.eH
  have HE := Lib.hid hE
  have Hwb : Hid (wb = w.alloc (.cells #[.int .i64 Hh, .slice A0 n0 c0, .slice A1 n1 c1, .slice A2 n2 c2, .slice A3 n3 c3, .int .i64 day, .slice A4 n4 c4] 30)) := hwb
  have HB := Lib.hid hbx
  have hbl := hbx.lt
  clear hE hwb hbx hx hf
  show Calls Tryz.prog 21 #[.agg #[.int .i64 Hh, .slice A0 n0 c0, .slice A1 n1 c1, .slice A2 n2 c2, .slice A3 n3 c3, .int .i64 day, .slice A4 n4 c4]] w _
  obtain ⟨b0, b1, b2, b3, b4, b5, b6⟩ := HB.out.cell
  simp only at b0 b1 b2 b3 b4 b5 b6
  cases hm : museumB m
  case false =>
    rw [hm] at cM
    have HF := Lib.hid (audit_bad hm)
    clear hm
    go_enter Tryz.func21, Tryz.ntmps21
    go_wp2_with (go_at_call 19; refine (fun h : Hid _ => h.out) ?_)
    unfold Hid
    rw [← Hwb.out]
    refine cM.out.mono ?_
    rintro e w1 ⟨rfl, h1⟩
    have HE1 := Lib.hid (HE.out.trans h1)
    clear h1 b0 b1 b2 b3 b4 b5 b6
    go_wp2_with fail
    go_ret
    exact ⟨ret_bool HF.out.symm, HE1.out⟩
  rw [hm] at cM
  have hTx := Lib.hid (museum_txt hm)
  have Hm := Lib.hid hm
  have hpp := museumB_parts.1 hm
  have hn4 : n4 ≤ 30 := by (have := sealed_len hpp.2.2.2.2.2.2.1; have := hl4.out; omega)
  have H12 : Hid (n1 = n2) := Lib.hid (by (have := hpp.2.2.1; have := hl1.out; have := hl2.out; omega))
  clear hm hpp
  go_enter Tryz.func21, Tryz.ntmps21
  go_wp2_with (go_at_call 19; refine (fun h : Hid _ => h.out) ?_)
  unfold Hid
  rw [← Hwb.out]
  refine cM.out.mono ?_
  rintro e w1 ⟨rfl, h1⟩
  have HE1 := Lib.hid h1
  have z1 := h1.size
  clear h1 b0 b1 b2 b3 b4 b5 b6
  obtain ⟨b0, b1, b2, b3, b4, b5, b6⟩ := (HB.out.keep HE1.out).cell
  simp only at b0 b1 b2 b3 b4 b5 b6
  have Ho0 : Hid ((w1.alloc (.cells #[] 56)).ownsRow wb.heap.size 56 4 (.slice (some ⟨w1.heap.size, 0, none⟩) 0 0) 0 []) := Lib.hid (own_empty w1 wb.heap.size 56 4 z1)
  have HE2 := Lib.hid (HE1.out.alloc (.cells #[] 56))
  obtain ⟨y0, y1, y2, y3, y4, y5, y6⟩ := (HB.out.keep HE2.out).cell
  simp only at y0 y1 y2 y3 y4 y5 y6
  have hbl1 : w.heap.size < w1.heap.size := by omega
  go_wp2_with fail
  go_loopw [3, 19] (fun o i wr => ∃ k : Nat, k ≤ n4 ∧ i = .int .i64 k ∧ Hid (wr.ownsRow wb.heap.size 56 4 o k ((movesL (m.rs.take k)).flatMap GMove.enc)) ∧ Hid (((m.rs.take k).all fun e => (parseM e.x).2) = true) ∧ Ext wb wr) (fun _ i _ => n4 - (intOf i).toNat)
  case atStart => exact ⟨0, Nat.zero_le _, rfl, Ho0, by unfold Hid; rfl, HE2.out⟩
  case round =>
    obtain ⟨k, hk, rfl, hown, hall, hb⟩ := hrel
    by_cases hlt : k < n4
    · obtain ⟨b, off, x, rfl, hbs, hxk, p0, p1, p2⟩ := GEntry.at_ (hxr.out.keep hb) hlt
      have hxs := hTx.out x (List.mem_of_getElem? hxk)
      have Hk := Lib.hid hxk
      obtain ⟨we, hwe⟩ : ∃ we, we = wr.alloc (.cells #[.int .i64 x.m, .string x.x, .int .i64 x.s] 43) := ⟨_, rfl⟩
      have hEe : Ext wr we := by rw [hwe]; exact (Ext.refl wr).alloc _
      have HBr := Lib.hid hb
      have HBe := Lib.hid (hb.trans hEe)
      have Hwe := Lib.hid hwe
      have cP := Lib.hid (impl_ParseMove x.x we (by omega) (Lib.hid (max_ext HM.out HBe.out)))
      clear hxk hwe hb
      go_wp2_with (go_at_call 80; refine (fun h : Hid _ => h.out) ?_)
      unfold Hid
      rw [← Hwe.out]
      refine cP.out.mono ?_
      rintro e w2 ⟨mv, pb, rfl, he2, hpm⟩
      have hpe := parseM_of hpm
      have HE3 := Lib.hid (hEe.trans he2)
      clear hEe he2 hpm
      cases pb
      case false =>
        have HF := Lib.hid (audit_no Hk.out (by rw [hpe]))
        clear hpe p0 p1 p2 b0 b1 b2 b3 b4 b5 b6
        go_wp2_with fail
        go_ret
        exact ⟨ret_bool HF.out.symm, (HE.out.trans (HBr.out.trans HE3.out)).alloc _⟩
      case true =>
        have HN : Hid (movesL (m.rs.take (k + 1)) = movesL (m.rs.take k) ++ [mv]) := Lib.hid (by rw [movesL_snoc Hk.out, hpe])
        have HA := Lib.hid (all_snocA Hk.out hall.out (by rw [hpe]))
        clear hpe p0 p1 p2 b0 b1 b2 b3 b4 b5 b6
        go_wp2_with (at_builtin; refine (fun h : Hid _ => h.out) ?_)
        unfold Hid
        refine append1 ei_MoveA rfl _ _ rfl wb.heap.size (w2.alloc (.cells #[.int .i64 mv.o, .int .i64 mv.t, .int .i64 mv.f, .int .i64 mv.s] 56)) _ _ k _ (by rfl) (own_keep hown.out (HE3.out.alloc _)) mv.enc (by rw [heap_size_allocN]; rfl) rfl (one_GMoveA mv) (by omega) ((HBr.out.trans (HE3.out.alloc _)).size) ?_
        intro v' w4 ho4 he4
        have HO4 := Lib.hid ho4
        have HE4 := Lib.hid (he4 wb (HBr.out.trans (HE3.out.alloc _)) (Nat.le_refl _))
        clear ho4 he4
        go_wp2_with fail
        go_roundw
        case rel => exact ⟨k + 1, by omega, by go_num, by unfold Hid; rw [HN.out, List.flatMap_append]; simpa using HO4.out, HA, HE4.out⟩
        case measure => simp [intOf]; omega
    · obtain rfl : n4 = k := by omega
      rw [List.take_of_length_le (by rw [hl4.out]; omega)] at hown hall
      have HIS := Lib.hid (audit_is Hm.out hall.out)
      have HBr := Lib.hid hb
      obtain ⟨P, hP⟩ : ∃ P, P = (replayL m.H m.ds m.fs (movesL m.rs)).1 := ⟨_, rfl⟩
      obtain ⟨rb, hrb⟩ : ∃ rb, rb = (replayL m.H m.ds m.fs (movesL m.rs)).2 := ⟨_, rfl⟩
      have hPl : P.length = n1 := by rw [hP, replayL_len]; exact hl1.out
      rw [← hP, ← hrb] at HIS
      obtain ⟨Am, cm, rfl, -⟩ := own_form hown.out
      have cR : Hid (Calls Tryz.prog 81 #[.agg #[.int .i64 Hh, .slice A0 n0 c0], .slice A1 n1 c1, .slice Am n4 cm] wr (ListBool P rb wr)) := Lib.hid (by
        rw [hP, hrb, ← hH.out]
        exact impl_ReplayMoves Hh A0 n0 c0 m.ds A1 n1 c1 m.fs Am n4 cm (movesL m.rs) wr (hxd.out.keep hb) (hxf.out.keep hb) (Rd.of_own hown.out) hzf hnf)
      have HPl := Lib.hid hPl
      clear hb hP hrb hPl b0 b1 b2 b3 b4 b5 b6
      obtain ⟨b0, b1, b2, b3, b4, b5, b6⟩ := (HB.out.keep HBr.out).cell
      simp only at b0 b1 b2 b3 b4 b5 b6
      go_wp2_with (go_at_call 81; refine (fun h : Hid _ => h.out) ?_)
      unfold Hid
      refine cR.out.mono ?_
      rintro e w5 ⟨vp, rfl, he5, ho5⟩
      obtain ⟨Ap, cp, rfl, -⟩ := own_form ho5
      have hrp := Rd.of_own ho5
      rw [HPl.out] at hrp
      have HRP := Lib.hid hrp
      have HE5 := Lib.hid (HBr.out.trans he5)
      clear he5 ho5 hrp hown b0 b1 b2 b3 b4 b5 b6
      rw [HPl.out]
      obtain ⟨b0, b1, b2, b3, b4, b5, b6⟩ := (HB.out.keep HE5.out).cell
      simp only at b0 b1 b2 b3 b4 b5 b6
      go_wp2_with fail
      go_loopw [9, 47] (fun okv i wr => ∃ (k : Nat) (bv : Bool), k ≤ n1 ∧ i = .int .i64 k ∧ okv = .bool bv ∧ Hid (bv = (rb && decide (P.take k = m.ps.take k))) ∧ Ext w5 wr) (fun _ i _ => n1 - (intOf i).toNat)
      case atStart => exact ⟨0, rb, Nat.zero_le _, rfl, rfl, by unfold Hid; simp, Ext.refl _⟩
      case round =>
        obtain ⟨k, bv, hk, rfl, rfl, hbv, hb⟩ := hrel
        clear b0 b1 b2 b3 b4 b5 b6
        by_cases hlt : k < n1
        · obtain ⟨bp, op, x, hAp, hbp, hpk, q0⟩ := ienc_at (HRP.out.keep hb) hlt
          obtain ⟨bq, oq, y, hAq, hbq, hqk, r0⟩ := ienc_at (hxp.out.keep (HE5.out.trans hb)) (show k < n2 by (have := H12.out; omega))
          subst hAp hAq
          have HQ := Lib.hid (eq_snoc hpk hqk rb)
          have HBB := Lib.hid hb
          have HW5 := Lib.hid (HE5.out.trans hb)
          obtain ⟨b0, b1, b2, b3, b4, b5, b6⟩ := (HB.out.keep (HE5.out.trans hb)).cell
          simp only at b0 b1 b2 b3 b4 b5 b6
          clear hpk hqk hb
          have Hbv := Lib.hid hbv
          clear hbv
          have i1 : (k : Int) < (n2 : Int) := by (have := H12.out; omega)
          cases bv
          case false =>
            go_wp2_with fail
            go_roundw
            case rel => exact ⟨k + 1, false, by omega, by go_num, rfl, by unfold Hid; rw [HQ.out, ← Hbv.out]; rfl, HBB.out⟩
            case measure => simp [intOf]; omega
          case true =>
            go_wp2_with fail
            go_roundw
            case rel => exact ⟨k + 1, (x == y), by omega, by go_num, rfl, by unfold Hid; rw [HQ.out, ← Hbv.out]; rfl, HBB.out⟩
            case measure => simp [intOf]; omega
        · obtain rfl : n1 = k := by omega
          go_wp2_with fail
          go_ret
          exact ⟨ret_bool (by rw [hbv.out, HIS.out, List.take_of_length_le (by rw [HPl.out]; omega), List.take_of_length_le (by rw [hl2.out]; have := H12.out; omega)]), HE.out.trans (HE5.out.trans hb)⟩
end Go.Proofs.YtkelmeemblmggaaGreatDoor
/- Contract of the reference's ReplayMoves; no condition but what stands at each theorem. -/
namespace Go.Proofs.YtkelmeemblmggaaGreatDoor
set_option linter.unusedSimpArgs false
set_option linter.unusedVariables false
open Go.RowKit Go.Sort
set_option maxRecDepth 100000 in
set_option maxHeartbeats 8000000 in
theorem spec_ReplayMoves (H : Int) (A : Option Addr) (n c : Nat) (ds : List GDoor) (A1 : Option Addr) (n1 c1 : Nat) (ps : List Int) (A2 : Option Addr) (n2 c2 : Nat) (ms : List GMove) (w : World) (hx : Rd w 2 A n (ds.flatMap GDoor.enc)) (hx1 : Rd w 1 A1 n1 (ps.flatMap ienc)) (hx2 : Rd w 4 A2 n2 (ms.flatMap GMove.enc)) (hnc : Hid (A1 = none → c1 = 0)) (hn1 : n1 ≤ 1048576) :
    Calls Tryz.prog 101 #[.agg #[.int .i64 H, .slice A n c], .slice A1 n1 c1, .slice A2 n2 c2] w (ListBool (replayL H ds ps ms).1 (replayL H ds ps ms).2 w) := by
  have hn2 := hx2.2.1
  have hl1 := Lib.hid (hx1.len ienc_len (by omega))
  have hl2 := Lib.hid (hx2.len GMove.len (by omega))
  obtain ⟨wb, hwb⟩ : ∃ wb, wb = w.alloc (.cells #[.int .i64 H, .slice A n c] 26) := ⟨_, rfl⟩
  obtain ⟨hE, hsb, a0, a1⟩ := box2 w _ _ _ wb hwb
  have HE := Lib.hid hE
  have Hwb := Lib.hid hwb
  have Ha0 := Lib.hid a0
  have Ha1 := Lib.hid a1
  have hxb := Lib.hid (hx.keep hE)
  have hxb1 := Lib.hid (hx1.keep hE)
  have hxb2 := Lib.hid (hx2.keep hE)
  have hbl : w.heap.size < wb.heap.size := by omega
  clear hE hwb a0 a1 hx hx1 hx2
  go_enter Tryz.func101, Tryz.ntmps101
  go_wp2_with fail
  rw [← Hwb.out]
  refine (spec_l35Copy A1 n1 c1 ps wb hxb1.out hnc hn1).mono ?_
  rintro e w1 ⟨g, c', rfl, he, ho⟩
  have HO1 := Lib.hid ho
  have HE1 := Lib.hid he
  clear ho he
  have cP := Lib.hid (spec_PlacesOk H A n c ds A1 n1 c1 ps w1 (hxb.out.keep HE1.out) (hxb1.out.keep HE1.out))
  have a0 := (HE1.out.cellAt w.heap.size hbl 0).trans Ha0.out
  have a1 := (HE1.out.cellAt w.heap.size hbl 1).trans Ha1.out
  cases hok : (placesB H ds ps && decide (n2 ≤ 30))
  case false =>
    have HL : Hid (replayL H ds ps ms = (ps, false)) := by unfold Hid replayL; rw [hl2.out, hok]; rfl
    cases hP : placesB H ds ps
    case false =>
      rw [hP] at cP
      clear hok hP
      go_wp2_with fail
      refine cP.out.mono ?_
      rintro e w2 ⟨rfl, he2⟩
      have HE2 := Lib.hid (Ext.trans HE1.out he2)
      have HO2 := Lib.hid (own_keep HO1.out he2)
      clear he2 a0 a1
      go_wp2_with fail
      go_ret2
      exact ⟨.slice (some ⟨g, 0, none⟩) n1 c', (by rw [HL.out]; rfl), HE.out.trans HE2.out, by rw [HL.out, hl1.out]; exact own_weak HO2.out (by omega)⟩
    case true =>
      have h30 : ¬ n2 ≤ 30 := by rw [hP] at hok; simpa using hok
      rw [hP] at cP
      clear hok hP
      go_wp2_with fail
      refine cP.out.mono ?_
      rintro e w2 ⟨rfl, he2⟩
      have HE2 := Lib.hid (Ext.trans HE1.out he2)
      have HO2 := Lib.hid (own_keep HO1.out he2)
      clear he2 a0 a1
      go_wp2_with fail
      go_ret2
      exact ⟨.slice (some ⟨g, 0, none⟩) n1 c', (by rw [HL.out]; rfl), HE.out.trans HE2.out, by rw [HL.out, hl1.out]; exact own_weak HO2.out (by omega)⟩
  case true =>
    obtain ⟨hP, h30⟩ : placesB H ds ps = true ∧ n2 ≤ 30 := by simpa using hok
    have HL : Hid (replayL H ds ps ms = replayF H ds ps ps ms) := by unfold Hid replayL; rw [hl2.out, hok]; rfl
    have hHB : Hid (houseB H ds = true) := by
      unfold Hid
      simp only [placesB, Bool.and_eq_true] at hP
      exact hallsB_house hP.2
    rw [hP] at cP
    clear hok hP
    go_wp2_with fail
    refine cP.out.mono ?_
    rintro e w2 ⟨rfl, he2⟩
    have HE2 := Lib.hid (Ext.trans HE1.out he2)
    have HO2 := Lib.hid (own_keep HO1.out he2)
    clear he2 a0 a1
    go_wp2_with fail
    go_loopw [9] (fun i wr => ∃ (k : Nat) (u : List Int), k ≤ n2 ∧ i = .int .i64 k ∧ wr.ownsRow wb.heap.size 3 1 (.slice (some ⟨g, 0, none⟩) n1 c') n1 (u.flatMap ienc) ∧ Hid (u.length = n1) ∧ Hid (replayF H ds ps ps ms = replayF H ds ps u (ms.drop k)) ∧ Ext wb wr) (fun i _ => n2 - (intOf i).toNat)
    case atStart => exact ⟨0, ps, Nat.zero_le _, rfl, HO2.out, hl1, rfl, HE2.out⟩
    case round =>
      obtain ⟨k, u, hk, rfl, hown, hul, hz, hb⟩ := hrel
      have HO := Lib.hid hown
      have HB := Lib.hid hb
      have a0 := (hb.cellAt w.heap.size hbl 0).trans Ha0.out
      have a1 := (hb.cellAt w.heap.size hbl 1).trans Ha1.out
      have hbr := hb.size
      have m0 : wr.heap.size ≠ w.heap.size := by omega
      have l0 : w.heap.size < wr.heap.size := by omega
      by_cases hlt : k < n2
      · obtain ⟨b, off, m, rfl, hbs, hmk, p0, p1, p2, p3⟩ := GMove.at_ (hxb2.out.keep hb) hlt
        have HD := Lib.hid (drop_cons hmk)
        clear hmk hb hown
        go_wp2_with fail
        obtain ⟨wd, hwd⟩ : ∃ wd, wd = wr.alloc (.cells #[.int .i64 m.o, .int .i64 m.t, .int .i64 m.f, .int .i64 m.s] 56) := ⟨_, rfl⟩
        rw [← hwd]
        obtain ⟨hEd, hsd, b0, b1, b2, b3⟩ := box4 wr _ _ _ _ _ wd hwd
        have HBd := Lib.hid (HB.out.trans hEd)
        have HOd := Lib.hid (own_keep HO.out hEd)
        have Ha0 := Lib.hid ((hEd.cellAt w.heap.size (by omega) 0).trans a0)
        have Ha1 := Lib.hid ((hEd.cellAt w.heap.size (by omega) 1).trans a1)
        clear hwd a0 a1 b2 b3
        have a0 := Ha0.out
        have a1 := Ha1.out
        have cO := Lib.hid (fun w => spec_l01In m.o 0 ((n1 : Int) - 1) w)
        have cT := Lib.hid (fun w => spec_l01In m.t 0 (wrap64 (H - 1)) w)
        have hsw : w.heap.size + 1 ≤ wb.heap.size := by omega
        have hul' : Hid ((u.length : Int) = n1) := by unfold Hid; rw [hul.out]
        have ew : IntKind.i64.wrap ((n1 : Int) - 1) = (n1 : Int) - 1 := IntWalk.i64_in _ (by omega)
        have eH : IntKind.i64.wrap (H - 1) = wrap64 (H - 1) := IntWalk.i64_left _
        cases hO : inB m.o 0 ((n1 : Int) - 1)
        case false =>
          rw [hO] at cO
          have HG : Hid (goB H ds u m = false) := by unfold Hid goB; rw [hul'.out, hO]; rfl
          clear hO
          have HF : Hid (replayF H ds ps ps ms = (ps, false)) := by unfold Hid; rw [hz.out, HD.out, replayF, HG.out]; rfl
          have y0 := cell_regrown a0
          have y1 := cell_regrown a1
          have y2 := cell_regrown b0
          have y3 := cell_regrown b1
          (refine wp_region_ext (by kernel_rfl) (by kernel_rfl) ?_; (repeat (go_big_quiet_step (first | (go_at_call 107; with_reducible exact Calls.rg0 (cO.out _)) | (go_at_call 107; with_reducible exact Calls.rg0 (cT.out _)) | (go_at_call 108; with_reducible exact Calls.rg (cD.out _ _))))); refine wpQuiet_nil ?_)
          intro w3 he3
          have HE3 := Lib.hid (HBd.out.trans he3)
          clear he3 hEd b0 b1 a0 a1 y0 y1 y2 y3
          go_wp2_with fail
          refine (spec_l35Copy A1 n1 c1 ps w3 (hxb1.out.keep HE3.out) hnc hn1).mono ?_
          rintro e w4 ⟨g2, c2', rfl, he4, ho4⟩
          have HO4 := Lib.hid ho4
          have HE4 := Lib.hid he4
          have hs3 := HE3.out.size
          clear ho4 he4
          go_wp2_with fail
          go_ret2
          exact ⟨.slice (some ⟨g2, 0, none⟩) n1 c2', (by rw [HL.out, HF.out]; rfl), HE.out.trans (HE3.out.trans HE4.out), by rw [HL.out, HF.out]; simp only; rw [hl1.out]; exact own_weak HO4.out (by omega)⟩
        case true =>
          have ho0 : 0 ≤ m.o ∧ m.o < n1 := by simp only [inB, Bool.and_eq_true, decide_eq_true_eq] at hO; omega
          obtain ⟨j, hj⟩ := Int.eq_ofNat_of_zero_le ho0.1
          have hjn : j < n1 := by omega
          have i0 : (0 : Int) ≤ (j : Int) := by omega
          have i1 : (j : Int) < (n1 : Int) := by omega
          obtain ⟨g', hg', hbg, hblk⟩ := PBlk.of_own HOd.out (by omega)
          injection hg' with hg'
          injection hg' with hg'
          subst hg'
          have q0 := hblk.cell (i := j) (by rw [hul.out]; exact hjn)
          have q2 := hblk.lt
          obtain ⟨x, hx⟩ : ∃ x, x = u.getD j 0 := ⟨_, rfl⟩
          rw [← hx] at q0
          have HOo := Lib.hid hO
          rw [hO] at cO
          rw [hj] at b0 cO
          have HJ := Lib.hid hj
          have HXu := Lib.hid hx
          clear hO hj hx ho0 hblk
          have cD := Lib.hid (fun d os => spec_l23Door H A n c ds x m.t (grow (redrawn wd d) os) ((hxb.out.keep HBd.out).keep (ext_rg wd d os)))
          cases hT : inB m.t 0 (wrap64 (H - 1))
          case false =>
            rw [hT] at cT
            have HG : Hid (goB H ds u m = false) := by unfold Hid goB hallB; rw [hul'.out, HOo.out, hT]; rfl
            clear hT
            have HF : Hid (replayF H ds ps ps ms = (ps, false)) := by unfold Hid; rw [hz.out, HD.out, replayF, HG.out]; rfl
            have y0 := cell_regrown a0
            have y1 := cell_regrown a1
            have y2 := cell_regrown b0
            have y3 := cell_regrown b1
            have y4 := cell_regrown q0
            (refine wp_region_ext (by kernel_rfl) (by kernel_rfl) ?_; (repeat (go_big_quiet_step (first | (go_at_call 107; with_reducible exact Calls.rg0 (cO.out _)) | (go_at_call 107; with_reducible exact Calls.rg0 (cT.out _)) | (go_at_call 108; with_reducible exact Calls.rg (cD.out _ _))))); refine wpQuiet_nil ?_)
            intro w3 he3
            have HE3 := Lib.hid (HBd.out.trans he3)
            clear he3 hEd b0 b1 a0 a1 y0 y1 y2 y3
            go_wp2_with fail
            refine (spec_l35Copy A1 n1 c1 ps w3 (hxb1.out.keep HE3.out) hnc hn1).mono ?_
            rintro e w4 ⟨g2, c2', rfl, he4, ho4⟩
            have HO4 := Lib.hid ho4
            have HE4 := Lib.hid he4
            have hs3 := HE3.out.size
            clear ho4 he4
            go_wp2_with fail
            go_ret2
            exact ⟨.slice (some ⟨g2, 0, none⟩) n1 c2', (by rw [HL.out, HF.out]; rfl), HE.out.trans (HE3.out.trans HE4.out), by rw [HL.out, HF.out]; simp only; rw [hl1.out]; exact own_weak HO4.out (by omega)⟩
          case true =>
            rw [hT] at cT
            cases hE : (x == m.t)
            case true =>
              have HG : Hid (goB H ds u m = false) := by
                unfold Hid goB hallB hasDoorB
                rw [hul'.out, HOo.out, hT, HJ.out, Int.toNat_natCast, ← HXu.out, beq_iff_eq.1 hE, doorB_self hHB.out, Bool.and_false]; rfl
              clear hT
              have HF : Hid (replayF H ds ps ps ms = (ps, false)) := by unfold Hid; rw [hz.out, HD.out, replayF, HG.out]; rfl
              have y0 := cell_regrown a0
              have y1 := cell_regrown a1
              have y2 := cell_regrown b0
              have y3 := cell_regrown b1
              have y4 := cell_regrown q0
              (refine wp_region_ext (by kernel_rfl) (by kernel_rfl) ?_; (repeat (go_big_quiet_step (first | (go_at_call 107; with_reducible exact Calls.rg0 (cO.out _)) | (go_at_call 107; with_reducible exact Calls.rg0 (cT.out _)) | (go_at_call 108; with_reducible exact Calls.rg (cD.out _ _))))); refine wpQuiet_nil ?_)
              intro w3 he3
              have HE3 := Lib.hid (HBd.out.trans he3)
              clear he3 hEd b0 b1 a0 a1 y0 y1 y2 y3
              go_wp2_with fail
              refine (spec_l35Copy A1 n1 c1 ps w3 (hxb1.out.keep HE3.out) hnc hn1).mono ?_
              rintro e w4 ⟨g2, c2', rfl, he4, ho4⟩
              have HO4 := Lib.hid ho4
              have HE4 := Lib.hid he4
              have hs3 := HE3.out.size
              clear ho4 he4
              go_wp2_with fail
              go_ret2
              exact ⟨.slice (some ⟨g2, 0, none⟩) n1 c2', (by rw [HL.out, HF.out]; rfl), HE.out.trans (HE3.out.trans HE4.out), by rw [HL.out, HF.out]; simp only; rw [hl1.out]; exact own_weak HO4.out (by omega)⟩
            case false =>
              cases hDo : doorB ds x m.t
              case false =>
                rw [hDo] at cD
                have HG : Hid (goB H ds u m = false) := by
                  unfold Hid goB hallB hasDoorB
                  rw [hul'.out, HOo.out, hT, HJ.out, Int.toNat_natCast, ← HXu.out, hDo, Bool.and_false]; rfl
                clear hT hDo
                have HF : Hid (replayF H ds ps ps ms = (ps, false)) := by unfold Hid; rw [hz.out, HD.out, replayF, HG.out]; rfl
                have y0 := cell_regrown a0
                have y1 := cell_regrown a1
                have y2 := cell_regrown b0
                have y3 := cell_regrown b1
                have y4 := cell_regrown q0
                (refine wp_region_ext (by kernel_rfl) (by kernel_rfl) ?_; (repeat (go_big_quiet_step (first | (go_at_call 107; with_reducible exact Calls.rg0 (cO.out _)) | (go_at_call 107; with_reducible exact Calls.rg0 (cT.out _)) | (go_at_call 108; with_reducible exact Calls.rg (cD.out _ _))))); refine wpQuiet_nil ?_)
                intro w3 he3
                have HE3 := Lib.hid (HBd.out.trans he3)
                clear he3 hEd b0 b1 a0 a1 y0 y1 y2 y3
                go_wp2_with fail
                refine (spec_l35Copy A1 n1 c1 ps w3 (hxb1.out.keep HE3.out) hnc hn1).mono ?_
                rintro e w4 ⟨g2, c2', rfl, he4, ho4⟩
                have HO4 := Lib.hid ho4
                have HE4 := Lib.hid he4
                have hs3 := HE3.out.size
                clear ho4 he4
                go_wp2_with fail
                go_ret2
                exact ⟨.slice (some ⟨g2, 0, none⟩) n1 c2', (by rw [HL.out, HF.out]; rfl), HE.out.trans (HE3.out.trans HE4.out), by rw [HL.out, HF.out]; simp only; rw [hl1.out]; exact own_weak HO4.out (by omega)⟩
              case true =>
                rw [hDo] at cD
                have HG : Hid (goB H ds u m = true) := by
                  unfold Hid goB hallB hasDoorB
                  rw [hul'.out, HOo.out, hT, HJ.out, Int.toNat_natCast, ← HXu.out, hDo, hHB.out]; rfl
                have HF : Hid (replayF H ds ps ps ms = replayF H ds ps (u.set j m.t) (ms.drop (k + 1))) := by unfold Hid; rw [hz.out, HD.out, replayF, HG.out, HJ.out]; rfl
                clear hT hDo
                have Hb0 := Lib.hid b0
                have Hb1 := Lib.hid b1
                have y0 := cell_regrown a0
                have y1 := cell_regrown a1
                have y2 := cell_regrown b0
                have y3 := cell_regrown b1
                have y4 := cell_regrown q0
                (refine wp_region_ext (by kernel_rfl) (by kernel_rfl) ?_; (repeat (go_big_quiet_step (first | (go_at_call 107; with_reducible exact Calls.rg0 (cO.out _)) | (go_at_call 107; with_reducible exact Calls.rg0 (cT.out _)) | (go_at_call 108; with_reducible exact Calls.rg (cD.out _ _))))); refine wpQuiet_nil ?_)
                intro w3 he3
                have HE3 := Lib.hid (HBd.out.trans he3)
                have ho3 := own_keep HOd.out he3
                obtain ⟨g', hg', hbg, hblk⟩ := PBlk.of_own ho3 (by omega)
                injection hg' with hg'
                injection hg' with hg'
                subst hg'
                have HO3 := Lib.hid ho3
                clear q0 b0 b1 a0 a1 y0 y1 y2 y3 y4
                have q0 := hblk.cell (i := j) (by rw [hul.out]; exact hjn)
                have q1 := hblk.free j
                have q2 := hblk.lt
                have b0 := (he3.cellAt wr.heap.size (by omega) 0).trans Hb0.out
                have b1 := (he3.cellAt wr.heap.size (by omega) 1).trans Hb1.out
                clear he3 hblk ho3 hEd
                go_wp2_with fail
                go_roundw
                case rel => exact ⟨k + 1, u.set j m.t, by omega, by go_num, own_set HO3.out j m.t, by unfold Hid; rw [List.length_set]; exact hul.out, HF, HE3.out.setCell hbg _⟩
                case measure => simp [intOf]; omega
      · obtain rfl : k = n2 := by omega
        clear a0 a1
        go_wp2_with fail
        go_ret2
        have hF : replayF H ds ps ps ms = (u, true) := by rw [hz.out, drop_nil (by rw [hl2.out]; omega)]; rfl
        exact ⟨.slice (some ⟨g, 0, none⟩) n1 c', (by rw [HL.out, hF]; rfl), HE.out.trans HB.out, by rw [HL.out, hF]; simp only; rw [hul.out]; exact own_weak HO.out (by omega)⟩
end Go.Proofs.YtkelmeemblmggaaGreatDoor
