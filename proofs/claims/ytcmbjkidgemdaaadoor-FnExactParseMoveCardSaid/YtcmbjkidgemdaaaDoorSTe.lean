/- ParseMove of both sides; no condition but what stands at each theorem. -/
import Derived.Test.YtcmbjkidgemdaaaDoorMQ
import Derived.Test.YtcmbjkidgemdaaaDoorSTg
namespace Go.Proofs.YtcmbjkidgemdaaaDoor
set_option linter.unusedSimpArgs false
set_option linter.unusedVariables false
open Go.RowKit Go.Sort
def PMPost (x : ByteArray) (w : World) (e : Ending) (w' : World) : Prop :=
  ∃ (m : GMove) (b : Bool), e = .returned (.tuple #[.agg #[.int .i64 m.o, .int .i64 m.t, .int .i64 m.f, .int .i64 m.s], .bool b]) ∧ Ext w w' ∧ PM x m b
theorem pm_none {x : ByteArray} {w w' : World} (h : ∀ m', mvB m' = true → x ≠ moveT m') (e : Ext w w') :
    PMPost x w (.returned (.tuple #[.agg #[.int .i64 0, .int .i64 0, .int .i64 0, .int .i64 0], .bool false])) w' :=
  ⟨⟨0, 0, 0, 0⟩, false, rfl, e, .inr ⟨rfl, rfl, h⟩⟩
theorem pm_some {x : ByteArray} {w w' : World} (m : GMove) (hm : mvB m = true) (hx : x = moveT m) (e : Ext w w') :
    PMPost x w (.returned (.tuple #[.agg #[.int .i64 m.o, .int .i64 m.t, .int .i64 m.f, .int .i64 m.s], .bool true])) w' :=
  ⟨m, true, rfl, e, .inl ⟨rfl, hm, hx⟩⟩
def set4 (W : World) (g : Nat) (u0 u1 u2 u3 : Value) : World := (((W.setCell ⟨g, 0, none⟩ u0).setCell ⟨g, 1, none⟩ u1).setCell ⟨g, 2, none⟩ u2).setCell ⟨g, 3, none⟩ u3
theorem set4_blk {W : World} {g : Nat} {t : TypeId} {v0 v1 v2 v3 : Value} (hB : Blk W g t #[v0, v1, v2, v3]) (u0 u1 u2 u3 : Value) : Blk (set4 W g u0 u1 u2 u3) g t #[u0, u1, u2, u3] :=
  (((hB.set 0 u0).set 1 u1).set 2 u2).set 3 u3
theorem set4_ext {w W : World} {g : Nat} (h : Ext w W) (hg : w.heap.size ≤ g) (u0 u1 u2 u3 : Value) : Ext w (set4 W g u0 u1 u2 u3) :=
  (((h.setCell (p := ⟨g, 0, none⟩) hg u0).setCell (p := ⟨g, 1, none⟩) hg u1).setCell (p := ⟨g, 2, none⟩) hg u2).setCell (p := ⟨g, 3, none⟩) hg u3
theorem nums_get {fs : List (List UInt8)} {zs : List Int} (h : NumsOf fs zs) {j : Nat} (hj : j < zs.length) : ∀ f, fs[j + 1]? = some f → NumOf f (zs.getD j 0) := fun f hf =>
  h j f _ (by rw [List.getD_eq_getElem?_getD, List.getElem?_eq_getElem hj]; rfl) hf
theorem mv_len {x : ByteArray} (h : (fieldsOf x).length ≠ 5) : ∀ m', mvB m' = true → x ≠ moveT m' := by
  rintro m' hm rfl
  rw [mv_fields hm] at h
  exact h rfl
/-- The end of ParseMove: the numbers of the words, the text compared. -/
theorem mv_end {x : ByteArray} {fs : List (List UInt8)} {n0 n1 n2 n3 : Int} (hx : x ≠ ByteArray.empty) (hw : ∀ m', mvB m' = true → x = moveT m' → fs = mvW m') (h0 : ∀ f, fs[1]? = some f → NumOf f n0) (h1 : ∀ f, fs[2]? = some f → NumOf f n1) (h2 : ∀ f, fs[3]? = some f → NumOf f n2) (h3 : ∀ f, fs[4]? = some f → NumOf f n3) :
    (((moveT ⟨n0, n1, n2, n3⟩).toList == x.toList) = true → mvB ⟨n0, n1, n2, n3⟩ = true ∧ x = moveT ⟨n0, n1, n2, n3⟩) ∧ (((moveT ⟨n0, n1, n2, n3⟩).toList == x.toList) = false → ∀ m', mvB m' = true → x ≠ moveT m') := by
  refine ⟨fun h => ?_, fun h m' hm e => ?_⟩
  · have e := bytes_eq h
    refine ⟨?_, e.symm⟩
    cases hb : mvB ⟨n0, n1, n2, n3⟩
    · rw [moveT_bad hb] at e
      exact absurd e.symm hx
    · rfl
  · have := mv_nums hm (hw m' hm e) h0 h1 h2 h3
    subst this
    exact bytes_ne h e.symm
theorem fields_nil : fieldsOf ByteArray.empty = [] := rfl
set_option maxRecDepth 100000 in
set_option maxHeartbeats 4000000 in
theorem spec_ParseMove (x : ByteArray) (w : World) (hx : x.size ≤ 1048576) : Calls Tryd.prog 24 #[.string x] w (PMPost x w) := by
  obtain ⟨wa, hwa⟩ : ∃ wa, wa = w.alloc (.cells #[.int .i64 0, .int .i64 0, .int .i64 0, .int .i64 0] 25) := ⟨_, rfl⟩
  have hEa : Ext w wa := by rw [hwa]; exact (Ext.refl w).alloc _
  have hsa : wa.heap.size = w.heap.size + 1 := by rw [hwa]; simp
  have hB : Blk wa w.heap.size 25 #[.int .i64 0, .int .i64 0, .int .i64 0, .int .i64 0] := by rw [hwa]; exact Blk.new _ _ _
  have Hwa := Lib.hid hwa
  have HEa := Lib.hid hEa
  have cS := Lib.hid (spec_SplitFields x wa hx)
  clear hwa hEa
  go_enter Tryd.func24, Tryd.ntmps24
  go_wp2_with fail
  rw [← Hwa.out]
  refine cS.out.mono ?_
  rintro e w1 ⟨v, rfl, hb1, hown⟩
  have hB1 := hB.keep hb1
  have hs1 := hb1.size
  have HE1 := Lib.hid (HEa.out.trans hb1)
  have l0 : w.heap.size < w1.heap.size := by omega
  have m0 : w1.heap.size ≠ w.heap.size := by omega
  have c0 : w1.cell? ⟨w.heap.size, 0, none⟩ = some (.int .i64 0) := hB1.cell 0
  have c1 : w1.cell? ⟨w.heap.size, 1, none⟩ = some (.int .i64 0) := hB1.cell 1
  have c2 : w1.cell? ⟨w.heap.size, 2, none⟩ = some (.int .i64 0) := hB1.cell 2
  have c3 : w1.cell? ⟨w.heap.size, 3, none⟩ = some (.int .i64 0) := hB1.cell 3
  have fz : ∀ o, w1.frozen? ⟨w.heap.size, o, none⟩ = false := fun o => hB1.free o
  clear hb1 hB
  cases hok : spOk x
  case false =>
    have HN : Hid (∀ m', mvB m' = true → x ≠ moveT m') := fun m' h e => by rw [e, mv_sp h] at hok; cases hok
    clear hown hok
    go_wp2_with fail
    obtain ⟨WF, hWF⟩ : ∃ WF, WF = set4 w1 w.heap.size (.int .i64 0) (.int .i64 0) (.int .i64 0) (.int .i64 0) := ⟨_, rfl⟩
    have FB := set4_blk hB1 (.int .i64 0) (.int .i64 0) (.int .i64 0) (.int .i64 0)
    have FE := set4_ext HE1.out (Nat.le_refl _) (.int .i64 0) (.int .i64 0) (.int .i64 0) (.int .i64 0)
    rw [← hWF] at FB FE
    unfold set4 at hWF
    rw [← hWF]
    clear hWF
    have y0 := FB.cell 0
    have y1 := FB.cell 1
    have y2 := FB.cell 2
    have y3 := FB.cell 3
    refine bodyPost_ret (v := .tuple #[.agg #[.int .i64 0, .int .i64 0, .int .i64 0, .int .i64 0], .bool false]) (by simp [results, Tryd.results24, go_sem, y0, y1, y2, y3]) rfl (pm_none HN.out FE)
  case true =>
    replace hown := hown hok
    have hfl := fields_len x
    have hx6 : x.size ≤ 600 := by
      unfold spOk at hok; simp at hok; exact hok.1.1
    obtain ⟨fs, hfs⟩ : ∃ fs, fs = fieldsOf x := ⟨_, rfl⟩
    have Hfs := Lib.hid hfs
    rw [← hfs] at hown hfl
    have Hfl := Lib.hid hfl
    clear hfs hok hfl
    obtain ⟨A, c', rfl, hnc⟩ := own_form hown
    have HOW := Lib.hid hown
    clear hown
    by_cases hm : fs.length = 5
    case neg =>
      have HN : Hid (∀ m', mvB m' = true → x ≠ moveT m') := mv_len (by rw [← Hfs.out]; exact hm)
      have hne : ((fs.length : Int) == 5) = false := beq_false_of_ne (by omega)
      clear hm
      go_wp2_with fail
      obtain ⟨WF, hWF⟩ : ∃ WF, WF = set4 w1 w.heap.size (.int .i64 0) (.int .i64 0) (.int .i64 0) (.int .i64 0) := ⟨_, rfl⟩
      have FB := set4_blk hB1 (.int .i64 0) (.int .i64 0) (.int .i64 0) (.int .i64 0)
      have FE := set4_ext HE1.out (Nat.le_refl _) (.int .i64 0) (.int .i64 0) (.int .i64 0) (.int .i64 0)
      rw [← hWF] at FB FE
      unfold set4 at hWF
      rw [← hWF]
      clear hWF
      have y0 := FB.cell 0
      have y1 := FB.cell 1
      have y2 := FB.cell 2
      have y3 := FB.cell 3
      refine bodyPost_ret (v := .tuple #[.agg #[.int .i64 0, .int .i64 0, .int .i64 0, .int .i64 0], .bool false]) (by simp [results, Tryd.results24, go_sem, y0, y1, y2, y3]) rfl (pm_none HN.out FE)
    case pos =>
    have Hm := Lib.hid hm
    obtain ⟨-, -, hr⟩ := Rd.of_own HOW.out
    obtain ⟨g, o, rfl, hg, hcell⟩ := hr (by omega)
    have Hcell := Lib.hid hcell
    rw [hm] at hnc ⊢
    clear hr hcell hm
    have hgw : w1.heap.size ≠ g := by omega
    go_wp2_with fail
    obtain ⟨wo, hwo⟩ : ∃ wo, wo = w1.alloc (.cells #[] 3) := ⟨_, rfl⟩
    rw [← hwo]
    have hEo : Ext w1 wo := by rw [hwo]; exact (Ext.refl w1).alloc _
    have Ho0 : Hid (wo.ownsRow w1.heap.size 3 1 (.slice (some ⟨w1.heap.size, 0, none⟩) 0 0) 0 []) := by rw [hwo]; exact own_empty w1 w1.heap.size 3 1 (Nat.le_refl _)
    have HEo := Lib.hid hEo
    have hso := hEo.size
    clear hwo hEo
    go_loopw [6, 7] (fun v i wr => ∃ (k : Nat) (zs : List Int), 1 ≤ k ∧ k ≤ 5 ∧ i = .int .i64 k ∧ zs.length + 1 = k ∧ Hid (wr.ownsRow w1.heap.size 3 1 v zs.length (zs.flatMap ienc)) ∧ Hid (NumsOf fs zs) ∧ Ext w1 wr) (fun _ i _ => 5 - (intOf i).toNat)
    case atStart => exact ⟨1, [], Nat.le_refl _, by omega, rfl, rfl, Ho0, Lib.hid (fun j f z hz => by simp at hz), HEo.out⟩
    case round =>
      obtain ⟨k, zs, hk1, hkm, rfl, hzl, hown, hN, hb⟩ := hrel
      have HB1 := Lib.hid hb
      have hsw := hb.size
      clear hb
      by_cases hlt : k < 5
      · obtain ⟨f, hf⟩ : ∃ f, fs[k]? = some f := ⟨fs[k]'(by rw [Hm.out]; exact hlt), List.getElem?_eq_getElem (by rw [Hm.out]; exact hlt)⟩
        have hfl := Hfl.out f (List.mem_of_getElem? hf)
        have q1 : wr.cell? ⟨g, o + k, none⟩ = some (.string ⟨f.toArray⟩) := (HB1.out.cellAt g hg (o + k)).trans (Hcell.out k _ (by rw [sval, List.getElem?_map, hf]; rfl))
        have hNs := Lib.hid (fun (z : Int) (hz : NumOf f z) => nums_snoc hN.out (by rw [show zs.length + 1 = k from hzl]; exact hf) hz)
        obtain ⟨F, hF⟩ : ∃ F : ByteArray, F = ⟨f.toArray⟩ := ⟨_, rfl⟩
        have hFs : F.size ≤ 601 := by rw [hF, mk_size]; omega
        have HFF := Lib.hid hF
        rw [← hF] at q1
        clear hf hF
        have cN := Lib.hid (spec_ParseUint F wr (by omega))
        have hgr : wr.heap.size ≠ g := by omega
        have hkl : zs.length ≤ 5 := by omega
        go_wp2_with (first
          | (go_at_call 47; refine cN.out.mono ?_; rintro e w2 ⟨z, b, rfl, hz9, hb2, hz⟩; have HB2 := Lib.hid hb2; have hs2 := hb2.size; have HZ := Lib.hid hz; clear hb2 hz)
          | (at_builtin; refine append1 ei_N rfl _ _ rfl w1.heap.size w2 _ _ zs.length _ (by rfl) (own_keep hown.out HB2.out) [.int .i64 z] (by rfl) rfl (one_intN _) (by omega) (by omega) ?_; intro v' w3 ho3 he3; have HO3 := Lib.hid ho3; have HE3 := Lib.hid (he3 w1 (HB1.out.trans HB2.out) (Nat.le_refl _)); clear ho3 he3))
        go_roundw
        case rel => exact ⟨k + 1, zs ++ [(z : Int)], by omega, by omega, by go_num, by simp; omega, by (unfold Hid; rw [List.length_append, List.flatMap_append]; exact HO3.out), hNs.out (z : Int) (fun i hi he => by have h := (HZ.out i hi (by rw [HFF.out]; exact he)).1; show z = (i : Int); omega), HE3.out⟩
        case measure => simp [intOf] <;> omega
      · obtain rfl : k = 5 := by omega
        have hz4 : zs.length = 4 := by omega
        obtain ⟨Av, cv, rfl, hcv⟩ := own_form hown.out
        obtain ⟨-, -, hr3⟩ := Rd.of_own hown.out
        obtain ⟨g3, o3, rfl, hg3, hc3⟩ := hr3 (by omega)
        have hc4 : ∀ j, j < 4 → wr.cell? ⟨g3, o3 + j, none⟩ = some (.int .i64 (zs.getD j 0)) := fun j hj => hc3 j _ (by
          rw [ienc_map, List.getElem?_map, List.getD_eq_getElem?_getD, List.getElem?_eq_getElem (by omega)]; rfl)
        have A0 := nums_get hN.out (j := 0) (by omega)
        have r0 := hc4 0 (by omega)
        have A1 := nums_get hN.out (j := 1) (by omega)
        have r1 := hc4 1 (by omega)
        have A2 := nums_get hN.out (j := 2) (by omega)
        have r2 := hc4 2 (by omega)
        have A3 := nums_get hN.out (j := 3) (by omega)
        have r3 := hc4 3 (by omega)
        rw [hz4] at hcv ⊢
        obtain ⟨n0, hn0⟩ : ∃ n, n = zs.getD 0 0 := ⟨_, rfl⟩
        rw [← hn0] at A0 r0
        obtain ⟨n1, hn1⟩ : ∃ n, n = zs.getD 1 0 := ⟨_, rfl⟩
        rw [← hn1] at A1 r1
        obtain ⟨n2, hn2⟩ : ∃ n, n = zs.getD 2 0 := ⟨_, rfl⟩
        rw [← hn2] at A2 r2
        obtain ⟨n3, hn3⟩ : ∃ n, n = zs.getD 3 0 := ⟨_, rfl⟩
        rw [← hn3] at A3 r3
        rw [Nat.add_zero] at r0
        have hxne : x ≠ ByteArray.empty := fun e => by
          have h5 := Hm.out
          rw [Hfs.out, e, fields_nil] at h5
          cases h5
        have HA := Lib.hid (mv_end hxne (fun m' hm e => by rw [Hfs.out, e]; exact mv_fields hm) A0 A1 A2 A3)
        have mg3 : wr.heap.size ≠ g3 := by omega
        have hBr := hB1.keep HB1.out
        clear hc3 hc4 hr3 A0 A1 A2 A3 hn0 hn1 hn2 hn3 hxne
        go_wp2_with fail
        go_region
        obtain ⟨W4, hW4⟩ : ∃ W4, W4 = (wr.alloc (.cells #[.int .i64 n0, .int .i64 n1, .int .i64 n2, .int .i64 n3] 25)).drew := ⟨_, rfl⟩
        have hE4 : Ext wr W4 := by rw [hW4]; exact ((Ext.refl wr).alloc _).drew
        have hB4 : Blk W4 wr.heap.size 25 #[.int .i64 n0, .int .i64 n1, .int .i64 n2, .int .i64 n3] := by rw [hW4]; exact (Blk.new _ _ _).drew
        rw [← hW4]
        clear hW4 r0 r1 r2 r3
        have b0 : W4.cell? ⟨wr.heap.size, 0, none⟩ = some (.int .i64 n0) := hB4.cell 0
        have b1 : W4.cell? ⟨wr.heap.size, 1, none⟩ = some (.int .i64 n1) := hB4.cell 1
        have b2 : W4.cell? ⟨wr.heap.size, 2, none⟩ = some (.int .i64 n2) := hB4.cell 2
        have b3 : W4.cell? ⟨wr.heap.size, 3, none⟩ = some (.int .i64 n3) := hB4.cell 3
        have cF := Lib.hid (spec_MoveText (⟨n0, n1, n2, n3⟩ : GMove) W4)
        obtain ⟨T2, hT2⟩ : ∃ T2, T2 = moveT (⟨n0, n1, n2, n3⟩ : GMove) := ⟨_, rfl⟩
        rw [← hT2] at cF HA
        have HT2 := Lib.hid hT2
        have HE4 := Lib.hid hE4
        have HB4 := Lib.hid hB4
        have HBR := Lib.hid hBr
        have l4 := HB4.out.lt
        have z4 := hE4.size
        have hwr : w.heap.size < wr.heap.size := hBr.lt
        clear hE4 hB4 hT2 hBr
        cases hq : (T2.toList == x.toList)
        case false =>
          have HN := Lib.hid (HA.out.2 hq)
          go_wp2_with (go_at_call 10; refine cF.out.mono ?_; rintro e w5 ⟨rfl, hb5⟩; have HB5 := Lib.hid hb5; have D5 := Lib.hid (HBR.out.keep (HE4.out.trans hb5)); have d0 := D5.out.cell 0; have d1 := D5.out.cell 1; have d2 := D5.out.cell 2; have d3 := D5.out.cell 3; have dz : ∀ o, w5.frozen? ⟨w.heap.size, o, none⟩ = false := fun o => D5.out.free o; have z5 := hb5.size; have m5 : w5.heap.size ≠ w.heap.size := (by omega); have l5 : w.heap.size < w5.heap.size := (by omega); clear hb5)
          obtain ⟨WF, hWF⟩ : ∃ WF, WF = set4 w5 w.heap.size (.int .i64 0) (.int .i64 0) (.int .i64 0) (.int .i64 0) := ⟨_, rfl⟩
          have FB := set4_blk D5.out (.int .i64 0) (.int .i64 0) (.int .i64 0) (.int .i64 0)
          have FE := set4_ext (HE1.out.trans (HB1.out.trans (HE4.out.trans HB5.out))) (Nat.le_refl _) (.int .i64 0) (.int .i64 0) (.int .i64 0) (.int .i64 0)
          rw [← hWF] at FB FE
          unfold set4 at hWF
          rw [← hWF]
          clear hWF
          have y0 := FB.cell 0
          have y1 := FB.cell 1
          have y2 := FB.cell 2
          have y3 := FB.cell 3
          refine bodyPost_ret (v := .tuple #[.agg #[.int .i64 0, .int .i64 0, .int .i64 0, .int .i64 0], .bool false]) (by simp [results, Tryd.results24, go_sem, y0, y1, y2, y3]) rfl (pm_none HN.out FE)
        case true =>
          have HY := Lib.hid (HA.out.1 hq)
          go_wp2_with (go_at_call 10; refine cF.out.mono ?_; rintro e w5 ⟨rfl, hb5⟩; have HB5 := Lib.hid hb5; have z5 := hb5.size; have x0 := (hb5.cellAt wr.heap.size HB4.out.lt 0).trans b0; have x1 := (hb5.cellAt wr.heap.size HB4.out.lt 1).trans b1; have x2 := (hb5.cellAt wr.heap.size HB4.out.lt 2).trans b2; have x3 := (hb5.cellAt wr.heap.size HB4.out.lt 3).trans b3; have D5 := Lib.hid (HBR.out.keep (HE4.out.trans hb5)); have d0 := D5.out.cell 0; have d1 := D5.out.cell 1; have d2 := D5.out.cell 2; have d3 := D5.out.cell 3; have dz : ∀ o, w5.frozen? ⟨w.heap.size, o, none⟩ = false := fun o => D5.out.free o; have m5 : w5.heap.size ≠ w.heap.size := (by omega); have l5 : w.heap.size < w5.heap.size := (by omega); clear hb5)
          obtain ⟨WF, hWF⟩ : ∃ WF, WF = set4 w5 w.heap.size (.int .i64 n0) (.int .i64 n1) (.int .i64 n2) (.int .i64 n3) := ⟨_, rfl⟩
          have FB := set4_blk D5.out (.int .i64 n0) (.int .i64 n1) (.int .i64 n2) (.int .i64 n3)
          have FE := set4_ext (HE1.out.trans (HB1.out.trans (HE4.out.trans HB5.out))) (Nat.le_refl _) (.int .i64 n0) (.int .i64 n1) (.int .i64 n2) (.int .i64 n3)
          rw [← hWF] at FB FE
          unfold set4 at hWF
          rw [← hWF]
          clear hWF
          have y0 := FB.cell 0
          have y1 := FB.cell 1
          have y2 := FB.cell 2
          have y3 := FB.cell 3
          refine bodyPost_ret (v := .tuple #[.agg #[.int .i64 n0, .int .i64 n1, .int .i64 n2, .int .i64 n3], .bool true]) (by simp [results, Tryd.results24, go_sem, y0, y1, y2, y3]) rfl (pm_some (⟨n0, n1, n2, n3⟩ : GMove) HY.out.1 (HY.out.2.trans HT2.out) FE)
end Go.Proofs.YtcmbjkidgemdaaaDoor
