/- ParseAct of the program; no condition but what stands at each theorem. -/
import Derived.Test.YtcmbjkidgemdaaaDoorSTg
namespace Go.Proofs.YtcmbjkidgemdaaaDoor
set_option linter.unusedSimpArgs false
set_option linter.unusedVariables false
open Go.RowKit Go.Sort
set_option maxRecDepth 100000 in
set_option maxHeartbeats 4000000 in
theorem impl_ParseAct (x : ByteArray) (w : World) (hx : x.size ≤ 1048576) (htab : Hid (Lib.TabIs Tryd.prog w "internal/strconv.uint64pow10" .u64 Lib.pow10Tab)) : Calls Tryd.prog 22 #[.string x] w (PAPost x w) := by
  obtain ⟨wa, hwa⟩ : ∃ wa, wa = w.alloc (.cells #[.int .i64 0, .int .i64 0, .int .i64 0, .int .i64 0, .int .i64 0] 32) := ⟨_, rfl⟩
  have hEa : Ext w wa := by rw [hwa]; exact (Ext.refl w).alloc _
  have hsa : wa.heap.size = w.heap.size + 1 := by rw [hwa]; simp
  have hB : Blk wa w.heap.size 32 #[.int .i64 0, .int .i64 0, .int .i64 0, .int .i64 0, .int .i64 0] := by rw [hwa]; exact Blk.new _ _ _
  have Hwa := Lib.hid hwa
  have HEa := Lib.hid hEa
  have cS := Lib.hid (impl_SplitFields x wa hx)
  clear hwa hEa
  go_enter Tryd.func22, Tryd.ntmps22
  go_wp2_with fail
  rw [← Hwa.out]
  refine cS.out.mono ?_
  rintro e w1 ⟨v, rfl, hb1, hown⟩
  have hB1 := hB.keep hb1
  have hs1 := hb1.size
  have HE1 := Lib.hid (HEa.out.trans hb1)
  have l0 : w.heap.size < w1.heap.size := by omega
  have m0 : w1.heap.size ≠ w.heap.size := by omega
  have c0 : w1.cell? ⟨w.heap.size, 0, none⟩ = some (.int .i64 0) := hB1.cell 0
  have c1 : w1.cell? ⟨w.heap.size, 1, none⟩ = some (.int .i64 0) := hB1.cell 1
  have c2 : w1.cell? ⟨w.heap.size, 2, none⟩ = some (.int .i64 0) := hB1.cell 2
  have c3 : w1.cell? ⟨w.heap.size, 3, none⟩ = some (.int .i64 0) := hB1.cell 3
  have c4 : w1.cell? ⟨w.heap.size, 4, none⟩ = some (.int .i64 0) := hB1.cell 4
  have fz : ∀ o, w1.frozen? ⟨w.heap.size, o, none⟩ = false := fun o => hB1.free o
  clear hb1 hB
  cases hok : spOk x
  case false =>
    have HN : Hid (∀ a', spOk x = true → acOk a' = true → fieldsOf x ≠ actW a') := fun a' h _ => by rw [hok] at h; cases h
    clear hown hok
    go_wp2_with fail
    obtain ⟨WF, hWF⟩ : ∃ WF, WF = set5 w1 w.heap.size (.int .i64 0) (.int .i64 0) (.int .i64 0) (.int .i64 0) (.int .i64 0) := ⟨_, rfl⟩
    have FB := set5_blk hB1 (.int .i64 0) (.int .i64 0) (.int .i64 0) (.int .i64 0) (.int .i64 0)
    have FE := set5_ext HE1.out (Nat.le_refl _) (.int .i64 0) (.int .i64 0) (.int .i64 0) (.int .i64 0) (.int .i64 0)
    rw [← hWF] at FB FE
    unfold set5 at hWF
    rw [← hWF]
    clear hWF
    have y0 := FB.cell 0
    have y1 := FB.cell 1
    have y2 := FB.cell 2
    have y3 := FB.cell 3
    have y4 := FB.cell 4
    refine bodyPost_ret (v := .tuple #[.agg #[.int .i64 0, .int .i64 0, .int .i64 0, .int .i64 0, .int .i64 0], .bool false]) (by simp [results, Tryd.results22, go_sem, y0, y1, y2, y3, y4]) rfl (pa_none HN.out FE)
  case true =>
    replace hown := hown hok
    have hfl := fields_len x
    have hfg := fields_good x
    have hx6 : x.size ≤ 600 := by
      unfold spOk at hok; simp at hok; exact hok.1.1
    obtain ⟨fs, hfs⟩ : ∃ fs, fs = fieldsOf x := ⟨_, rfl⟩
    have Hfs := Lib.hid hfs
    have HOK := Lib.hid hok
    rw [← hfs] at hown hfl hfg
    have Hfg := Lib.hid hfg
    have Hfl := Lib.hid hfl
    clear hfs hok hfl hfg
    obtain ⟨A, c', rfl, hnc⟩ := own_form hown
    have HOW := Lib.hid hown
    clear hown
    by_cases hm : 1 ≤ fs.length
    case neg =>
      have hm0 : fs.length = 0 := by omega
      have HN : Hid (∀ a', spOk x = true → acOk a' = true → fieldsOf x ≠ actW a') := fun a' _ _ h => by
        have := actW_len a'
        rw [← h, ← Hfs.out] at this
        omega
      rw [hm0]
      go_wp2_with fail
      obtain ⟨WF, hWF⟩ : ∃ WF, WF = set5 w1 w.heap.size (.int .i64 0) (.int .i64 0) (.int .i64 0) (.int .i64 0) (.int .i64 0) := ⟨_, rfl⟩
      have FB := set5_blk hB1 (.int .i64 0) (.int .i64 0) (.int .i64 0) (.int .i64 0) (.int .i64 0)
      have FE := set5_ext HE1.out (Nat.le_refl _) (.int .i64 0) (.int .i64 0) (.int .i64 0) (.int .i64 0) (.int .i64 0)
      rw [← hWF] at FB FE
      unfold set5 at hWF
      rw [← hWF]
      clear hWF
      have y0 := FB.cell 0
      have y1 := FB.cell 1
      have y2 := FB.cell 2
      have y3 := FB.cell 3
      have y4 := FB.cell 4
      refine bodyPost_ret (v := .tuple #[.agg #[.int .i64 0, .int .i64 0, .int .i64 0, .int .i64 0, .int .i64 0], .bool false]) (by simp [results, Tryd.results22, go_sem, y0, y1, y2, y3, y4]) rfl (pa_none HN.out FE)
    case pos =>
    obtain ⟨-, -, hr⟩ := Rd.of_own HOW.out
    obtain ⟨g, o, rfl, hg, hcell⟩ := hr (by omega)
    have Hcell := Lib.hid hcell
    clear hr hcell
    obtain ⟨m, hmm⟩ : ∃ m, m = fs.length - 1 := ⟨_, rfl⟩
    have hml : fs.length = m + 1 := by omega
    rw [hml] at hnc HOW ⊢
    have hm24 : m ≤ 24 := by
      have h := HOK.out
      unfold spOk at h
      simp at h
      have h2 := h.2
      rw [← Hfs.out] at h2
      omega
    have Hml := Lib.hid hml
    clear hml hmm hm
    have hm1i : (1 : Int) ≤ (m : Int) + 1 := by omega
    have hz0 : (((m + 1 : Nat) : Int) == 0) = false := beq_false_of_ne (by omega)
    have hci : (m : Int) + 1 ≤ c' := by omega
    have hmk := mk4 w1
    obtain ⟨A28, c28, h28, hsl⟩ := tail_of g o m c' hnc
    go_wp2_with fail
    clear hmk hsl
    obtain ⟨wo, hwo⟩ : ∃ wo, wo = w1.alloc (.cells #[.int .i64 0, .int .i64 0, .int .i64 0, .int .i64 0] 3) := ⟨_, rfl⟩
    rw [← hwo]
    have hEo : Ext w1 wo := by rw [hwo]; exact (Ext.refl w1).alloc _
    have HI0 : Hid (IBlk wo w1.heap.size 3 [0, 0, 0, 0]) := by rw [hwo]; exact Blk.new _ _ _
    have HEo := Lib.hid hEo
    clear hwo hEo
    go_loopw [30] (fun i wr => ∃ (k : Nat) (u : List Int), k ≤ m ∧ i = .int .i64 k ∧ Hid (u.length = 4) ∧ Hid (IBlk wr w1.heap.size 3 u) ∧ Hid (∀ j, j < 4 → (j < k → ∃ f, fs[j + 1]? = some f ∧ NumOf f (u.getD j 0)) ∧ (k ≤ j → u.getD j 0 = 0)) ∧ Ext w1 wr) (fun i _ => m - (intOf i).toNat)
    case atStart =>
      refine ⟨0, [0, 0, 0, 0], Nat.zero_le _, rfl, rfl, HI0, Lib.hid (fun j hj => ⟨fun h => absurd h (by omega), fun _ => ?_⟩), HEo.out⟩
      match j, hj with
      | 0, _ => rfl
      | 1, _ => rfl
      | 2, _ => rfl
      | 3, _ => rfl
    case round =>
      obtain ⟨k, u, hkm, rfl, hul, hI, hN, hb⟩ := hrel
      have HB1 := Lib.hid hb
      have hsw := hb.size
      clear hb
      by_cases hlt : k < m
      · obtain ⟨f, hf⟩ : ∃ f, fs[k + 1]? = some f := ⟨fs[k + 1]'(by rw [Hml.out]; omega), List.getElem?_eq_getElem (by rw [Hml.out]; omega)⟩
        obtain rfl := h28 (by omega)
        have hfl := Hfl.out f (List.mem_of_getElem? hf)
        have q1 : wr.cell? ⟨g, o + 1 + k, none⟩ = some (.string ⟨f.toArray⟩) := by
          rw [Nat.add_assoc, Nat.add_comm 1 k]
          exact (HB1.out.cellAt g hg (o + (k + 1))).trans (Hcell.out (k + 1) _ (by rw [sval, List.getElem?_map, hf]; rfl))
        obtain ⟨F, hF⟩ : ∃ F : ByteArray, F = ⟨f.toArray⟩ := ⟨_, rfl⟩
        have hFs : F.size ≤ 601 := by rw [hF, mk_size]; omega
        have HFF := Lib.hid hF
        have HF := Lib.hid hf
        rw [← hF] at q1
        clear hf hF
        have cN := Lib.hid (impl_ParseUint F wr (by omega))
        by_cases h4 : k < 4
        · have h4i : (k : Int) < 4 := by omega
          go_wp2_with (go_at_call 45; refine cN.out.mono ?_; rintro e w2 ⟨z, b, rfl, hz9, hb2, hz⟩; have HB2 := Lib.hid hb2; have hs2 := hb2.size; have HZ := Lib.hid hz; have hI2 := Lib.hid (hI.out.keep hb2); have t1 := hI2.out.cell (i := k) (by rw [hul.out]; exact h4); have t2 := hI2.out.free k; clear hb2 hz)
          go_roundw
          case rel =>
            refine ⟨_, _, _, _, _, _, _, _, _, _, _, _, _, _, _, _, _, _, _, _, ?_, rfl⟩
            refine ⟨k + 1, u.set k z, by omega, by go_num, by (unfold Hid; rw [List.length_set]; exact hul.out), IBlk.set hI2.out k z, ?_, (HB1.out.trans HB2.out).setCell (p := ⟨w1.heap.size, k, none⟩) (Nat.le_refl _) _⟩
            refine Lib.hid (fun j hj => ?_)
            by_cases hjk : j = k
            · subst hjk
              refine ⟨fun _ => ⟨f, HF.out, ?_⟩, fun h => absurd h (by omega)⟩
              rw [List.getD_eq_getElem?_getD, List.getElem?_set_self (by rw [hul.out]; exact hj)]
              intro i hi he
              have h := (HZ.out i hi (by rw [HFF.out]; exact he)).1
              show (z : Int) = (i : Int)
              rw [h]
            · rw [List.getD_eq_getElem?_getD, List.getElem?_set_ne (fun h => hjk h.symm), ← List.getD_eq_getElem?_getD]
              exact ⟨fun h => (hN.out j hj).1 (by omega), fun h => (hN.out j hj).2 (by omega)⟩
          case measure => simp [intOf] <;> omega
        · have h4i : ¬ (k : Int) < 4 := by omega
          have h4j : (4 : Int) ≤ k := by omega
          go_wp2_with fail
          go_roundw
          case rel => exact ⟨k + 1, u, by omega, by go_num, hul, hI, Lib.hid (fun j hj => ⟨fun _ => (hN.out j hj).1 (by omega), fun h => absurd h (by omega)⟩), HB1.out⟩
          case measure => simp [intOf] <;> omega
      · have HNA : Hid (∀ j, j < 4 → NumAt fs j (u.getD j 0)) := fun j hj => by
          by_cases hjm : j < k
          · exact .inl ((hN.out j hj).1 hjm)
          · exact .inr ⟨by rw [Hml.out]; omega, (hN.out j hj).2 (by omega)⟩
        obtain rfl : m = k := by omega
        have A0 := HNA.out 0 (by omega)
        have r0 := hI.out.cell (i := 0) (by rw [hul.out]; omega)
        obtain ⟨n0, hn0⟩ : ∃ n, n = u.getD 0 0 := ⟨_, rfl⟩
        rw [← hn0] at A0 r0
        have A1 := HNA.out 1 (by omega)
        have r1 := hI.out.cell (i := 1) (by rw [hul.out]; omega)
        obtain ⟨n1, hn1⟩ : ∃ n, n = u.getD 1 0 := ⟨_, rfl⟩
        rw [← hn1] at A1 r1
        have A2 := HNA.out 2 (by omega)
        have r2 := hI.out.cell (i := 2) (by rw [hul.out]; omega)
        obtain ⟨n2, hn2⟩ : ∃ n, n = u.getD 2 0 := ⟨_, rfl⟩
        rw [← hn2] at A2 r2
        have A3 := HNA.out 3 (by omega)
        have r3 := hI.out.cell (i := 3) (by rw [hul.out]; omega)
        obtain ⟨n3, hn3⟩ : ∃ n, n = u.getD 3 0 := ⟨_, rfl⟩
        rw [← hn3] at A3 r3
        have HA := Lib.hid (fun (a' : GAct) (ha : acOk a' = true) (he : fs = actW a') => act_nums ha he A0 A1 A2 A3)
        have hgn : w1.heap.size < wr.heap.size := hI.out.lt
        have mgn : wr.heap.size ≠ w1.heap.size := by omega
        clear A0 A1 A2 A3 hn0 hn1 hn2 hn3
        go_wp2_with fail
        go_region
        clear r0 r1 r2 r3
        obtain ⟨W4, hW4⟩ : ∃ W4, W4 = (wr.alloc (.cells #[.int .i64 0, .int .i64 n0, .int .i64 n1, .int .i64 n2, .int .i64 n3] 32)).drew := ⟨_, rfl⟩
        have hE4 : Ext wr W4 := by rw [hW4]; exact ((Ext.refl wr).alloc _).drew
        have hB4 : Blk W4 wr.heap.size 32 #[.int .i64 0, .int .i64 n0, .int .i64 n1, .int .i64 n2, .int .i64 n3] := by rw [hW4]; exact (Blk.new _ _ _).drew
        rw [← hW4]
        clear hW4
        obtain ⟨wq, rfl⟩ : ∃ wq, wq = wr := ⟨_, rfl⟩
        obtain ⟨gB, hgB⟩ : ∃ gB, gB = wq.heap.size := ⟨_, rfl⟩
        rw [← hgB] at hB4 ⊢
        have hgB1 : w1.heap.size < gB := by omega
        have HB4 := Lib.hid hB4
        have HE4 := Lib.hid hE4
        have hgBq : Hid (wq.heap.size ≤ gB) := by unfold Hid; omega
        have HgB := Lib.hid hgB
        clear hB4 hE4 hgB mgn
        go_wp2_with fail
        go_loopw [10] (fun i wr => ∃ (k : Nat) (kk : Int), 1 ≤ k ∧ k ≤ 6 ∧ i = .int .i64 k ∧ Hid (Blk wr gB 32 #[.int .i64 kk, .int .i64 n0, .int .i64 n1, .int .i64 n2, .int .i64 n3]) ∧ Hid (∀ q : Nat, 1 ≤ q → q < k → ¬ (acOk ⟨q, n0, n1, n2, n3⟩ = true ∧ fs = actW ⟨q, n0, n1, n2, n3⟩)) ∧ Ext wq wr) (fun i _ => 6 - (intOf i).toNat)
        case atStart => exact ⟨1, 0, Nat.le_refl _, by omega, rfl, HB4, Lib.hid (fun q h1 h2 => absurd h2 (by omega)), HE4.out⟩
        case round =>
          obtain ⟨k, kk, hk1, hk6, rfl, hbx, hno, hb⟩ := hrel
          have hBr := hB1.keep (HB1.out.trans hb)
          have HBR := Lib.hid hBr
          have HEr := Lib.hid (HE1.out.trans (HB1.out.trans hb))
          have HEb := Lib.hid hb
          have hsr := hb.size
          have lr : w.heap.size < wr.heap.size := by omega
          have mr : wr.heap.size ≠ w.heap.size := by omega
          by_cases hle : k ≤ 5
          case neg =>
            have d0 : wr.cell? ⟨w.heap.size, 0, none⟩ = some (.int .i64 0) := hBr.cell 0
            have d1 : wr.cell? ⟨w.heap.size, 1, none⟩ = some (.int .i64 0) := hBr.cell 1
            have d2 : wr.cell? ⟨w.heap.size, 2, none⟩ = some (.int .i64 0) := hBr.cell 2
            have d3 : wr.cell? ⟨w.heap.size, 3, none⟩ = some (.int .i64 0) := hBr.cell 3
            have d4 : wr.cell? ⟨w.heap.size, 4, none⟩ = some (.int .i64 0) := hBr.cell 4
            have dz : ∀ o, wr.frozen? ⟨w.heap.size, o, none⟩ = false := fun o => hBr.free o
            have HN : Hid (∀ a', spOk x = true → acOk a' = true → fieldsOf x ≠ actW a') := fun a' _ ha he => by
              have he' : fs = actW a' := Hfs.out.trans he
              have h1 := HA.out a' ha he'
              have h2 := (ac_cases ha).1
              rcases h2 with h2 | h2 | h2 | h2 | h2
              · exact hno.out 1 (by omega) (by omega) (by rw [h2] at h1; rw [h1] at ha he'; exact ⟨ha, he'⟩)
              · exact hno.out 2 (by omega) (by omega) (by rw [h2] at h1; rw [h1] at ha he'; exact ⟨ha, he'⟩)
              · exact hno.out 3 (by omega) (by omega) (by rw [h2] at h1; rw [h1] at ha he'; exact ⟨ha, he'⟩)
              · exact hno.out 4 (by omega) (by omega) (by rw [h2] at h1; rw [h1] at ha he'; exact ⟨ha, he'⟩)
              · exact hno.out 5 (by omega) (by omega) (by rw [h2] at h1; rw [h1] at ha he'; exact ⟨ha, he'⟩)
            clear hBr
            go_wp2_with fail
            obtain ⟨WF, hWF⟩ : ∃ WF, WF = set5 wr w.heap.size (.int .i64 0) (.int .i64 0) (.int .i64 0) (.int .i64 0) (.int .i64 0) := ⟨_, rfl⟩
            have FB := set5_blk HBR.out (.int .i64 0) (.int .i64 0) (.int .i64 0) (.int .i64 0) (.int .i64 0)
            have FE := set5_ext HEr.out (Nat.le_refl _) (.int .i64 0) (.int .i64 0) (.int .i64 0) (.int .i64 0) (.int .i64 0)
            rw [← hWF] at FB FE
            unfold set5 at hWF
            rw [← hWF]
            clear hWF
            have y0 := FB.cell 0
            have y1 := FB.cell 1
            have y2 := FB.cell 2
            have y3 := FB.cell 3
            have y4 := FB.cell 4
            refine bodyPost_ret (v := .tuple #[.agg #[.int .i64 0, .int .i64 0, .int .i64 0, .int .i64 0, .int .i64 0], .bool false]) (by simp [results, Tryd.results22, go_sem, y0, y1, y2, y3, y4]) rfl (pa_none HN.out FE)
          case pos =>
            have lB : gB < wr.heap.size := hbx.out.lt
            have b0 : wr.cell? ⟨gB, 0, none⟩ = some (.int .i64 kk) := hbx.out.cell 0
            have b1 : wr.cell? ⟨gB, 1, none⟩ = some (.int .i64 n0) := hbx.out.cell 1
            have b2 : wr.cell? ⟨gB, 2, none⟩ = some (.int .i64 n1) := hbx.out.cell 2
            have b3 : wr.cell? ⟨gB, 3, none⟩ = some (.int .i64 n2) := hbx.out.cell 3
            have b4 : wr.cell? ⟨gB, 4, none⟩ = some (.int .i64 n3) := hbx.out.cell 4
            have bz : ∀ o, wr.frozen? ⟨gB, o, none⟩ = false := fun o => hbx.out.free o
            clear hb hBr
            go_wp2_with fail
            clear b0 b1 b2 b3 b4 bz
            obtain ⟨W5, hW5⟩ : ∃ W5, W5 = wr.setCell ⟨gB, 0, none⟩ (.int .i64 (k : Int)) := ⟨_, rfl⟩
            have hB5 : Blk W5 gB 32 #[.int .i64 (k : Int), .int .i64 n0, .int .i64 n1, .int .i64 n2, .int .i64 n3] := by rw [hW5]; exact hbx.out.set 0 _
            have hE5 : Ext wq W5 := by rw [hW5]; exact HEb.out.setCell (p := ⟨gB, 0, none⟩) hgBq.out _
            rw [← hW5]
            clear hW5
            have hFx : Ext w W5 := HE1.out.trans (HB1.out.trans hE5)
            have cF := Lib.hid (impl_FormatAct (⟨(k : Int), n0, n1, n2, n3⟩ : GAct) W5 (Lib.hid (tab_ext htab.out hFx)))
            have HB5 := Lib.hid hB5
            have HE5 := Lib.hid hE5
            have HFX := Lib.hid hFx
            clear hB5 hE5 hFx hbx
            have step : ∀ (w6 : World), Ext W5 w6 → ¬ (acOk (⟨(k : Int), n0, n1, n2, n3⟩ : GAct) = true ∧ fs = actW (⟨(k : Int), n0, n1, n2, n3⟩ : GAct)) → Hid (Blk w6 gB 32 #[.int .i64 (k : Int), .int .i64 n0, .int .i64 n1, .int .i64 n2, .int .i64 n3]) ∧ Hid (∀ q : Nat, 1 ≤ q → q < k + 1 → ¬ (acOk ⟨(q : Int), n0, n1, n2, n3⟩ = true ∧ fs = actW ⟨(q : Int), n0, n1, n2, n3⟩)) ∧ Ext wq w6 := fun w6 e hk =>
              ⟨HB5.out.keep e, no_snoc (p := fun q : Nat => acOk ⟨(q : Int), n0, n1, n2, n3⟩ = true ∧ fs = actW ⟨(q : Int), n0, n1, n2, n3⟩) hno.out hk, HE5.out.trans e⟩
            have HS := Lib.hid step
            clear step
            cases hok2 : acOk (⟨(k : Int), n0, n1, n2, n3⟩ : GAct)
            case false =>
              rw [hok2] at cF
              have hbad : Hid (¬ (acOk (⟨(k : Int), n0, n1, n2, n3⟩ : GAct) = true ∧ fs = actW (⟨(k : Int), n0, n1, n2, n3⟩ : GAct))) := fun h => by rw [hok2] at h; cases h.1
              clear hok2
              go_wp2_with (go_at_call 15; refine cF.out.mono ?_; rintro e w6 ⟨rfl, hb6⟩; have HB6 := Lib.hid hb6; clear hb6)
              go_roundw
              case rel =>
                first | refine ⟨_, _, _, _, _, _, _, _, _, _, _, _, _, _, _, _, _, _, _, _, ?_, rfl⟩ | refine ⟨_, _, _, _, _, _, _, _, _, _, _, _, _, _, _, _, _, _, _, _, _, ?_, rfl⟩ | refine ⟨_, _, _, _, _, _, _, _, _, _, _, _, _, _, _, _, _, _, _, _, _, _, ?_, rfl⟩ | refine ⟨_, _, _, _, _, _, _, _, _, _, _, _, _, _, _, _, _, _, _, _, _, _, _, ?_, rfl⟩ | refine ⟨_, _, _, _, _, _, _, _, _, _, _, _, _, _, _, _, _, _, _, _, _, _, _, _, ?_, rfl⟩ | refine ⟨_, _, _, _, _, _, _, _, _, _, _, _, _, _, _, _, _, _, _, _, _, _, _, _, _, ?_, rfl⟩ | refine ⟨_, _, _, _, _, _, _, _, _, _, _, _, _, _, _, _, _, _, _, _, _, _, _, _, _, _, ?_, rfl⟩ | refine ⟨_, _, _, _, _, _, _, _, _, _, _, _, _, _, _, _, _, _, _, _, _, _, _, _, _, _, _, ?_, rfl⟩ | refine ⟨_, _, _, _, _, _, _, _, _, _, _, _, _, _, _, _, _, _, _, _, _, _, _, _, _, _, _, _, ?_, rfl⟩ | refine ⟨_, _, _, _, _, _, _, _, _, _, _, _, _, _, _, _, _, _, _, _, _, _, _, _, _, _, _, _, _, ?_, rfl⟩ | refine ⟨_, _, _, _, _, _, _, _, _, _, _, _, _, _, _, _, _, _, _, _, _, _, _, _, _, _, _, _, _, _, ?_, rfl⟩
                exact ⟨k + 1, k, by omega, by omega, by go_num, (HS.out _ HB6.out hbad.out).1, (HS.out _ HB6.out hbad.out).2.1, (HS.out _ HB6.out hbad.out).2.2⟩
              case measure => simp [intOf] <;> omega
            case true =>
              rw [hok2] at cF
              obtain ⟨T2, hT2⟩ : ∃ T2, T2 = actT (⟨(k : Int), n0, n1, n2, n3⟩ : GAct) := ⟨_, rfl⟩
              rw [← hT2] at cF
              have HT2 := Lib.hid hT2
              have HO2 := Lib.hid hok2
              clear hT2 hok2
              obtain ⟨T, hT⟩ : ∃ T, T = jb fs := ⟨_, rfl⟩
              have HT := Lib.hid hT
              have cJ : Hid (∀ w6, Ext W5 w6 → Calls Tryd.prog 46 #[.slice (some ⟨g, o, none⟩) (m + 1) c', .string ⟨#[32]⟩] w6 fun e w' => e = .returned (.string T) ∧ Ext w6 w') := Lib.hid (fun w6 e6 => by
                have e16 : Ext w1 w6 := HB1.out.trans (HE5.out.trans e6)
                have h := Tryd.strings_Join g o c' (bas fs) ⟨#[32]⟩ w6 (fun j x hj => (e16.cellAt g hg (o + j)).trans (Hcell.out j _ (bas_at hj))) (by have := e16.size; omega) (by rw [bas_len, Hml.out]; omega) (by rw [bas_len, Hml.out]; omega) (by
                  have h1 : (Lib.join fs [32]).length ≤ fs.length * (x.size + 2) := jb_len fs Hfl.out
                  have h2 := Hml.out
                  rw [bas_data]
                  show (Lib.join fs [32]).length ≤ _
                  have : x.size + 2 ≤ 602 := by omega
                  have := Nat.mul_le_mul (show fs.length ≤ 25 by omega) this
                  omega)
                rw [bas_len, Hml.out, bas_data] at h
                refine h.mono ?_
                rintro e w' ⟨rfl, hb'⟩
                exact ⟨by rw [HT.out]; rfl, hb'⟩)
              clear hT
              cases hq : (T2.toList == T.toList)
              case false =>
                have hbad : Hid (¬ (acOk (⟨(k : Int), n0, n1, n2, n3⟩ : GAct) = true ∧ fs = actW (⟨(k : Int), n0, n1, n2, n3⟩ : GAct))) := fun h => bytes_ne hq (by rw [HT2.out, actT_jb HO2.out, HT.out, ← h.2])
                go_wp2_with (first
                  | (go_at_call 15; refine cF.out.mono ?_; rintro e w6 ⟨rfl, hb6⟩; have HB6 := Lib.hid hb6; clear hb6)
                  | (go_at_call 46; refine (cJ.out _ HB6.out).mono ?_; rintro e w7 ⟨rfl, hb7⟩; have HB7 := Lib.hid (HB6.out.trans hb7); clear hb7))
                go_roundw
                case rel => first | exact ⟨k + 1, k, by omega, by omega, by go_num, (HS.out _ HB7.out hbad.out).1, (HS.out _ HB7.out hbad.out).2.1, (HS.out _ HB7.out hbad.out).2.2⟩ | ((first | refine ⟨_, _, _, _, _, _, _, _, _, _, _, _, _, _, _, _, _, _, _, _, ?_, rfl⟩ | refine ⟨_, _, _, _, _, _, _, _, _, _, _, _, _, _, _, _, _, _, _, _, _, ?_, rfl⟩ | refine ⟨_, _, _, _, _, _, _, _, _, _, _, _, _, _, _, _, _, _, _, _, _, _, ?_, rfl⟩ | refine ⟨_, _, _, _, _, _, _, _, _, _, _, _, _, _, _, _, _, _, _, _, _, _, _, ?_, rfl⟩ | refine ⟨_, _, _, _, _, _, _, _, _, _, _, _, _, _, _, _, _, _, _, _, _, _, _, _, ?_, rfl⟩ | refine ⟨_, _, _, _, _, _, _, _, _, _, _, _, _, _, _, _, _, _, _, _, _, _, _, _, _, ?_, rfl⟩ | refine ⟨_, _, _, _, _, _, _, _, _, _, _, _, _, _, _, _, _, _, _, _, _, _, _, _, _, _, ?_, rfl⟩ | refine ⟨_, _, _, _, _, _, _, _, _, _, _, _, _, _, _, _, _, _, _, _, _, _, _, _, _, _, _, ?_, rfl⟩ | refine ⟨_, _, _, _, _, _, _, _, _, _, _, _, _, _, _, _, _, _, _, _, _, _, _, _, _, _, _, _, ?_, rfl⟩ | refine ⟨_, _, _, _, _, _, _, _, _, _, _, _, _, _, _, _, _, _, _, _, _, _, _, _, _, _, _, _, _, ?_, rfl⟩ | refine ⟨_, _, _, _, _, _, _, _, _, _, _, _, _, _, _, _, _, _, _, _, _, _, _, _, _, _, _, _, _, _, ?_, rfl⟩ | refine ⟨_, _, _, _, _, _, _, _, _, _, _, _, _, _, _, _, _, _, _, _, _, _, _, _, _, _, _, _, _, _, _, ?_, rfl⟩ | refine ⟨_, _, _, _, _, _, _, _, _, _, _, _, _, _, _, _, _, _, _, _, _, _, _, _, _, _, _, _, _, _, _, _, ?_, rfl⟩ | refine ⟨_, _, _, _, _, _, _, _, _, _, _, _, _, _, _, _, _, _, _, _, _, _, _, _, _, _, _, _, _, _, _, _, _, ?_, rfl⟩ | refine ⟨_, _, _, _, _, _, _, _, _, _, _, _, _, _, _, _, _, _, _, _, _, _, _, _, _, _, _, _, _, _, _, _, _, _, ?_, rfl⟩); exact ⟨k + 1, k, by omega, by omega, by go_num, (HS.out _ HB7.out hbad.out).1, (HS.out _ HB7.out hbad.out).2.1, (HS.out _ HB7.out hbad.out).2.2⟩)
                case measure => simp [intOf] <;> omega
              case true =>
                have hfin : Hid (fieldsOf x = actW (⟨(k : Int), n0, n1, n2, n3⟩ : GAct)) := by
                  unfold Hid
                  rw [← Hfs.out]
                  exact act_words HO2.out Hfg.out (fun h => by have := Hml.out; rw [h] at this; simp at this) (by rw [← HT2.out, bytes_eq hq, HT.out])
                go_wp2_with (first
                  | (go_at_call 15; refine cF.out.mono ?_; rintro e w6 ⟨rfl, hb6⟩; have HB6 := Lib.hid hb6; clear hb6)
                  | (go_at_call 46; refine (cJ.out _ HB6.out).mono ?_; rintro e w7 ⟨rfl, hb7⟩; have HB7 := Lib.hid (HB6.out.trans hb7); have X7 := Lib.hid (HB5.out.keep HB7.out); have x0 := X7.out.cell 0; have x1 := X7.out.cell 1; have x2 := X7.out.cell 2; have x3 := X7.out.cell 3; have x4 := X7.out.cell 4; have D7 := Lib.hid (hB1.keep (HB1.out.trans (HE5.out.trans HB7.out))); have d0 := D7.out.cell 0; have d1 := D7.out.cell 1; have d2 := D7.out.cell 2; have d3 := D7.out.cell 3; have d4 := D7.out.cell 4; have dz : ∀ o, w7.frozen? ⟨w.heap.size, o, none⟩ = false := fun o => D7.out.free o; clear hb7))
                obtain ⟨WF, hWF⟩ : ∃ WF, WF = set5 w7 w.heap.size (.int .i64 (k : Int)) (.int .i64 n0) (.int .i64 n1) (.int .i64 n2) (.int .i64 n3) := ⟨_, rfl⟩
                have FB := set5_blk D7.out (.int .i64 (k : Int)) (.int .i64 n0) (.int .i64 n1) (.int .i64 n2) (.int .i64 n3)
                have FE := set5_ext (HFX.out.trans HB7.out) (Nat.le_refl _) (.int .i64 (k : Int)) (.int .i64 n0) (.int .i64 n1) (.int .i64 n2) (.int .i64 n3)
                rw [← hWF] at FB FE
                unfold set5 at hWF
                rw [← hWF]
                clear hWF
                have y0 := FB.cell 0
                have y1 := FB.cell 1
                have y2 := FB.cell 2
                have y3 := FB.cell 3
                have y4 := FB.cell 4
                refine bodyPost_ret (v := .tuple #[.agg #[.int .i64 (k : Int), .int .i64 n0, .int .i64 n1, .int .i64 n2, .int .i64 n3], .bool true]) (by simp [results, Tryd.results22, go_sem, y0, y1, y2, y3, y4]) rfl (pa_some (⟨(k : Int), n0, n1, n2, n3⟩ : GAct) HOK.out HO2.out hfin.out FE)
end Go.Proofs.YtcmbjkidgemdaaaDoor
