/- Texts of one proof, laid one behind the other (STc, ST6, MR); no condition but what stands at each theorem. -/
import Derived.Lib.AppendStr
import Derived.Test.YtfhibjehnoibeaaDoorZG
import Derived.Test.YtfhibjehnoibeaaDoorZH
import Derived.Test.YtfhibjehnoibeaaDoorZJ
import Derived.Test.YtfhibjehnoibeaaDoorZL
/- ParseAct of the program; no condition but what stands at each theorem. -/
namespace Go.Proofs.YtfhibjehnoibeaaDoor
set_option linter.unusedSimpArgs false
set_option linter.unusedVariables false
open Go.RowKit Go.Sort
set_option maxRecDepth 100000 in
set_option maxHeartbeats 4000000 in
theorem impl_ParseAct (x : ByteArray) (w : World) (hx : x.size ≤ 1048576) (htab : Hid (Lib.TabIs Tryd.prog w "internal/strconv.uint64pow10" .u64 Lib.pow10Tab)) : Calls Tryd.prog 9 #[.string x] w (PAPost x w) := by
  obtain ⟨wa, hwa⟩ : ∃ wa, wa = w.alloc (.cells #[.int .i64 0, .int .i64 0, .int .i64 0, .int .i64 0, .int .i64 0] 37) := ⟨_, rfl⟩
  have hEa : Ext w wa := by rw [hwa]; exact (Ext.refl w).alloc _
  have hsa : wa.heap.size = w.heap.size + 1 := by rw [hwa]; simp
  have hB : Blk wa w.heap.size 37 #[.int .i64 0, .int .i64 0, .int .i64 0, .int .i64 0, .int .i64 0] := by rw [hwa]; exact Blk.new _ _ _
  have Hwa := Lib.hid hwa
  have HEa := Lib.hid hEa
  have cS := Lib.hid (impl_SplitFields x wa hx)
  clear hwa hEa
  go_enter Tryd.func9, Tryd.ntmps9
  go_wp2_with fail
  rw [← Hwa.out]
  refine cS.out.mono ?_
  rintro e w1 ⟨v, rfl, hb1, hown⟩
  have hB1 := hB.keep hb1
  have hs1 := hb1.size
  have HE1 := Lib.hid (HEa.out.trans hb1)
  have l0 : w.heap.size < w1.heap.size := by omega
  have m0 : w1.heap.size ≠ w.heap.size := by omega
  have c0 : w1.cell? ⟨w.heap.size, 0, none⟩ = some (.int .i64 0) := hB1.cell 0
  have c1 : w1.cell? ⟨w.heap.size, 1, none⟩ = some (.int .i64 0) := hB1.cell 1
  have c2 : w1.cell? ⟨w.heap.size, 2, none⟩ = some (.int .i64 0) := hB1.cell 2
  have c3 : w1.cell? ⟨w.heap.size, 3, none⟩ = some (.int .i64 0) := hB1.cell 3
  have c4 : w1.cell? ⟨w.heap.size, 4, none⟩ = some (.int .i64 0) := hB1.cell 4
  have fz : ∀ o, w1.frozen? ⟨w.heap.size, o, none⟩ = false := fun o => hB1.free o
  clear hb1 hB
  cases hok : spOk x
  case false =>
    have HN : Hid (∀ a', spOk x = true → acOk a' = true → fieldsOf x ≠ actW a') := fun a' h _ => by rw [hok] at h; cases h
    clear hown hok
    go_wp2_with fail
    obtain ⟨WF, hWF⟩ : ∃ WF, WF = set5 w1 w.heap.size (.int .i64 0) (.int .i64 0) (.int .i64 0) (.int .i64 0) (.int .i64 0) := ⟨_, rfl⟩
    have FB := set5_blk hB1 (.int .i64 0) (.int .i64 0) (.int .i64 0) (.int .i64 0) (.int .i64 0)
    have FE := set5_ext HE1.out (Nat.le_refl _) (.int .i64 0) (.int .i64 0) (.int .i64 0) (.int .i64 0) (.int .i64 0)
    rw [← hWF] at FB FE
    unfold set5 at hWF
    rw [← hWF]
    clear hWF
    have y0 := FB.cell 0
    have y1 := FB.cell 1
    have y2 := FB.cell 2
    have y3 := FB.cell 3
    have y4 := FB.cell 4
    refine bodyPost_ret (v := .tuple #[.agg #[.int .i64 0, .int .i64 0, .int .i64 0, .int .i64 0, .int .i64 0], .bool false]) (by simp [results, Tryd.results9, go_sem, y0, y1, y2, y3, y4]) rfl (pa_none HN.out FE)
  case true =>
    replace hown := hown hok
    have hfl := fields_len x
    have hfg := fields_good x
    have hx6 : x.size ≤ 600 := by
      unfold spOk at hok; simp at hok; exact hok.1.1
    obtain ⟨fs, hfs⟩ : ∃ fs, fs = fieldsOf x := ⟨_, rfl⟩
    have Hfs := Lib.hid hfs
    have HOK := Lib.hid hok
    rw [← hfs] at hown hfl hfg
    have Hfg := Lib.hid hfg
    have Hfl := Lib.hid hfl
    clear hfs hok hfl hfg
    obtain ⟨A, c', rfl, hnc⟩ := own_form hown
    have HOW := Lib.hid hown
    clear hown
    by_cases hm : 1 ≤ fs.length
    case neg =>
      have hm0 : fs.length = 0 := by omega
      have HN : Hid (∀ a', spOk x = true → acOk a' = true → fieldsOf x ≠ actW a') := fun a' _ _ h => by
        have := actW_len a'
        rw [← h, ← Hfs.out] at this
        omega
      rw [hm0]
      go_wp2_with fail
      obtain ⟨WF, hWF⟩ : ∃ WF, WF = set5 w1 w.heap.size (.int .i64 0) (.int .i64 0) (.int .i64 0) (.int .i64 0) (.int .i64 0) := ⟨_, rfl⟩
      have FB := set5_blk hB1 (.int .i64 0) (.int .i64 0) (.int .i64 0) (.int .i64 0) (.int .i64 0)
      have FE := set5_ext HE1.out (Nat.le_refl _) (.int .i64 0) (.int .i64 0) (.int .i64 0) (.int .i64 0) (.int .i64 0)
      rw [← hWF] at FB FE
      unfold set5 at hWF
      rw [← hWF]
      clear hWF
      have y0 := FB.cell 0
      have y1 := FB.cell 1
      have y2 := FB.cell 2
      have y3 := FB.cell 3
      have y4 := FB.cell 4
      refine bodyPost_ret (v := .tuple #[.agg #[.int .i64 0, .int .i64 0, .int .i64 0, .int .i64 0, .int .i64 0], .bool false]) (by simp [results, Tryd.results9, go_sem, y0, y1, y2, y3, y4]) rfl (pa_none HN.out FE)
    case pos =>
    obtain ⟨-, -, hr⟩ := Rd.of_own HOW.out
    obtain ⟨g, o, rfl, hg, hcell⟩ := hr (by omega)
    have Hcell := Lib.hid hcell
    clear hr hcell
    obtain ⟨m, hmm⟩ : ∃ m, m = fs.length - 1 := ⟨_, rfl⟩
    have hml : fs.length = m + 1 := by omega
    rw [hml] at hnc HOW ⊢
    have hm24 : m ≤ 24 := by
      have h := HOK.out
      unfold spOk at h
      simp at h
      have h2 := h.2
      rw [← Hfs.out] at h2
      omega
    have Hml := Lib.hid hml
    clear hml hmm hm
    have hm1i : (1 : Int) ≤ (m : Int) + 1 := by omega
    have hz0 : (((m + 1 : Nat) : Int) == 0) = false := beq_false_of_ne (by omega)
    have hci : (m : Int) + 1 ≤ c' := by omega
    have hmk := mk4P w1
    obtain ⟨A28, c28, h28, hsl⟩ := tail_of g o m c' hnc
    go_wp2_with fail
    clear hmk hsl
    obtain ⟨wo, hwo⟩ : ∃ wo, wo = w1.alloc (.cells #[.int .i64 0, .int .i64 0, .int .i64 0, .int .i64 0] 3) := ⟨_, rfl⟩
    rw [← hwo]
    have hEo : Ext w1 wo := by rw [hwo]; exact (Ext.refl w1).alloc _
    have HI0 : Hid (IBlk wo w1.heap.size 3 [0, 0, 0, 0]) := by rw [hwo]; exact Blk.new _ _ _
    have HEo := Lib.hid hEo
    clear hwo hEo
    go_loopw [30] (fun i wr => ∃ (k : Nat) (u : List Int), k ≤ m ∧ i = .int .i64 k ∧ Hid (u.length = 4) ∧ Hid (IBlk wr w1.heap.size 3 u) ∧ Hid (∀ j, j < 4 → (j < k → ∃ f, fs[j + 1]? = some f ∧ NumOf f (u.getD j 0)) ∧ (k ≤ j → u.getD j 0 = 0)) ∧ Ext w1 wr) (fun i _ => m - (intOf i).toNat)
    case atStart =>
      refine ⟨0, [0, 0, 0, 0], Nat.zero_le _, rfl, rfl, HI0, Lib.hid (fun j hj => ⟨fun h => absurd h (by omega), fun _ => ?_⟩), HEo.out⟩
      match j, hj with
      | 0, _ => rfl
      | 1, _ => rfl
      | 2, _ => rfl
      | 3, _ => rfl
    case round =>
      obtain ⟨k, u, hkm, rfl, hul, hI, hN, hb⟩ := hrel
      have HB1 := Lib.hid hb
      have hsw := hb.size
      clear hb
      by_cases hlt : k < m
      · obtain ⟨f, hf⟩ : ∃ f, fs[k + 1]? = some f := ⟨fs[k + 1]'(by rw [Hml.out]; omega), List.getElem?_eq_getElem (by rw [Hml.out]; omega)⟩
        obtain rfl := h28 (by omega)
        have hfl := Hfl.out f (List.mem_of_getElem? hf)
        have q1 : wr.cell? ⟨g, o + 1 + k, none⟩ = some (.string ⟨f.toArray⟩) := by
          rw [Nat.add_assoc, Nat.add_comm 1 k]
          exact (HB1.out.cellAt g hg (o + (k + 1))).trans (Hcell.out (k + 1) _ (by rw [sval, List.getElem?_map, hf]; rfl))
        obtain ⟨F, hF⟩ : ∃ F : ByteArray, F = ⟨f.toArray⟩ := ⟨_, rfl⟩
        have hFs : F.size ≤ 601 := by rw [hF, mk_size]; omega
        have HFF := Lib.hid hF
        have HF := Lib.hid hf
        rw [← hF] at q1
        clear hf hF
        have cN := Lib.hid (impl_ParseUint F wr (by omega))
        by_cases h4 : k < 4
        · have h4i : (k : Int) < 4 := by omega
          go_wp2_with (go_at_call 26; refine cN.out.mono ?_; rintro e w2 ⟨z, b, rfl, hz9, hb2, hz⟩; have HB2 := Lib.hid hb2; have hs2 := hb2.size; have HZ := Lib.hid hz; have hI2 := Lib.hid (hI.out.keep hb2); have t1 := hI2.out.cell (i := k) (by rw [hul.out]; exact h4); have t2 := hI2.out.free k; clear hb2 hz)
          go_roundw
          case rel =>
            refine ⟨_, _, _, _, _, _, _, _, _, _, _, _, _, _, _, _, _, _, _, _, ?_, rfl⟩
            refine ⟨k + 1, u.set k z, by omega, by go_num, by (unfold Hid; rw [List.length_set]; exact hul.out), IBlk.set hI2.out k z, ?_, (HB1.out.trans HB2.out).setCell (p := ⟨w1.heap.size, k, none⟩) (Nat.le_refl _) _⟩
            refine Lib.hid (fun j hj => ?_)
            by_cases hjk : j = k
            · subst hjk
              refine ⟨fun _ => ⟨f, HF.out, ?_⟩, fun h => absurd h (by omega)⟩
              rw [List.getD_eq_getElem?_getD, List.getElem?_set_self (by rw [hul.out]; exact hj)]
              intro i hi he
              have h := (HZ.out i hi (by rw [HFF.out]; exact he)).1
              show (z : Int) = (i : Int)
              rw [h]
            · rw [List.getD_eq_getElem?_getD, List.getElem?_set_ne (fun h => hjk h.symm), ← List.getD_eq_getElem?_getD]
              exact ⟨fun h => (hN.out j hj).1 (by omega), fun h => (hN.out j hj).2 (by omega)⟩
          case measure => simp [intOf] <;> omega
        · have h4i : ¬ (k : Int) < 4 := by omega
          have h4j : (4 : Int) ≤ k := by omega
          go_wp2_with fail
          go_roundw
          case rel => exact ⟨k + 1, u, by omega, by go_num, hul, hI, Lib.hid (fun j hj => ⟨fun _ => (hN.out j hj).1 (by omega), fun h => absurd h (by omega)⟩), HB1.out⟩
          case measure => simp [intOf] <;> omega
      · have HNA : Hid (∀ j, j < 4 → NumAt fs j (u.getD j 0)) := fun j hj => by
          by_cases hjm : j < k
          · exact .inl ((hN.out j hj).1 hjm)
          · exact .inr ⟨by rw [Hml.out]; omega, (hN.out j hj).2 (by omega)⟩
        obtain rfl : m = k := by omega
        have A0 := HNA.out 0 (by omega)
        have r0 := hI.out.cell (i := 0) (by rw [hul.out]; omega)
        obtain ⟨n0, hn0⟩ : ∃ n, n = u.getD 0 0 := ⟨_, rfl⟩
        rw [← hn0] at A0 r0
        have A1 := HNA.out 1 (by omega)
        have r1 := hI.out.cell (i := 1) (by rw [hul.out]; omega)
        obtain ⟨n1, hn1⟩ : ∃ n, n = u.getD 1 0 := ⟨_, rfl⟩
        rw [← hn1] at A1 r1
        have A2 := HNA.out 2 (by omega)
        have r2 := hI.out.cell (i := 2) (by rw [hul.out]; omega)
        obtain ⟨n2, hn2⟩ : ∃ n, n = u.getD 2 0 := ⟨_, rfl⟩
        rw [← hn2] at A2 r2
        have A3 := HNA.out 3 (by omega)
        have r3 := hI.out.cell (i := 3) (by rw [hul.out]; omega)
        obtain ⟨n3, hn3⟩ : ∃ n, n = u.getD 3 0 := ⟨_, rfl⟩
        rw [← hn3] at A3 r3
        have HA := Lib.hid (fun (a' : GAct) (ha : acOk a' = true) (he : fs = actW a') => act_nums ha he A0 A1 A2 A3)
        have hgn : w1.heap.size < wr.heap.size := hI.out.lt
        have mgn : wr.heap.size ≠ w1.heap.size := by omega
        clear A0 A1 A2 A3 hn0 hn1 hn2 hn3
        go_wp2_with fail
        go_region
        clear r0 r1 r2 r3
        obtain ⟨W4, hW4⟩ : ∃ W4, W4 = (wr.alloc (.cells #[.int .i64 0, .int .i64 n0, .int .i64 n1, .int .i64 n2, .int .i64 n3] 37)).drew := ⟨_, rfl⟩
        have hE4 : Ext wr W4 := by rw [hW4]; exact ((Ext.refl wr).alloc _).drew
        have hB4 : Blk W4 wr.heap.size 37 #[.int .i64 0, .int .i64 n0, .int .i64 n1, .int .i64 n2, .int .i64 n3] := by rw [hW4]; exact (Blk.new _ _ _).drew
        rw [← hW4]
        clear hW4
        obtain ⟨wq, rfl⟩ : ∃ wq, wq = wr := ⟨_, rfl⟩
        obtain ⟨gB, hgB⟩ : ∃ gB, gB = wq.heap.size := ⟨_, rfl⟩
        rw [← hgB] at hB4 ⊢
        have hgB1 : w1.heap.size < gB := by omega
        have HB4 := Lib.hid hB4
        have HE4 := Lib.hid hE4
        have hgBq : Hid (wq.heap.size ≤ gB) := by unfold Hid; omega
        have HgB := Lib.hid hgB
        clear hB4 hE4 hgB mgn
        go_wp2_with fail
        go_loopw [10] (fun i wr => ∃ (k : Nat) (kk : Int), 1 ≤ k ∧ k ≤ 6 ∧ i = .int .i64 k ∧ Hid (Blk wr gB 37 #[.int .i64 kk, .int .i64 n0, .int .i64 n1, .int .i64 n2, .int .i64 n3]) ∧ Hid (∀ q : Nat, 1 ≤ q → q < k → ¬ (acOk ⟨q, n0, n1, n2, n3⟩ = true ∧ fs = actW ⟨q, n0, n1, n2, n3⟩)) ∧ Ext wq wr) (fun i _ => 6 - (intOf i).toNat)
        case atStart => exact ⟨1, 0, Nat.le_refl _, by omega, rfl, HB4, Lib.hid (fun q h1 h2 => absurd h2 (by omega)), HE4.out⟩
        case round =>
          obtain ⟨k, kk, hk1, hk6, rfl, hbx, hno, hb⟩ := hrel
          have hBr := hB1.keep (HB1.out.trans hb)
          have HBR := Lib.hid hBr
          have HEr := Lib.hid (HE1.out.trans (HB1.out.trans hb))
          have HEb := Lib.hid hb
          have hsr := hb.size
          have lr : w.heap.size < wr.heap.size := by omega
          have mr : wr.heap.size ≠ w.heap.size := by omega
          by_cases hle : k ≤ 5
          case neg =>
            have d0 : wr.cell? ⟨w.heap.size, 0, none⟩ = some (.int .i64 0) := hBr.cell 0
            have d1 : wr.cell? ⟨w.heap.size, 1, none⟩ = some (.int .i64 0) := hBr.cell 1
            have d2 : wr.cell? ⟨w.heap.size, 2, none⟩ = some (.int .i64 0) := hBr.cell 2
            have d3 : wr.cell? ⟨w.heap.size, 3, none⟩ = some (.int .i64 0) := hBr.cell 3
            have d4 : wr.cell? ⟨w.heap.size, 4, none⟩ = some (.int .i64 0) := hBr.cell 4
            have dz : ∀ o, wr.frozen? ⟨w.heap.size, o, none⟩ = false := fun o => hBr.free o
            have HN : Hid (∀ a', spOk x = true → acOk a' = true → fieldsOf x ≠ actW a') := fun a' _ ha he => by
              have he' : fs = actW a' := Hfs.out.trans he
              have h1 := HA.out a' ha he'
              have h2 := (ac_cases ha).1
              rcases h2 with h2 | h2 | h2 | h2 | h2
              · exact hno.out 1 (by omega) (by omega) (by rw [h2] at h1; rw [h1] at ha he'; exact ⟨ha, he'⟩)
              · exact hno.out 2 (by omega) (by omega) (by rw [h2] at h1; rw [h1] at ha he'; exact ⟨ha, he'⟩)
              · exact hno.out 3 (by omega) (by omega) (by rw [h2] at h1; rw [h1] at ha he'; exact ⟨ha, he'⟩)
              · exact hno.out 4 (by omega) (by omega) (by rw [h2] at h1; rw [h1] at ha he'; exact ⟨ha, he'⟩)
              · exact hno.out 5 (by omega) (by omega) (by rw [h2] at h1; rw [h1] at ha he'; exact ⟨ha, he'⟩)
            clear hBr
            go_wp2_with fail
            obtain ⟨WF, hWF⟩ : ∃ WF, WF = set5 wr w.heap.size (.int .i64 0) (.int .i64 0) (.int .i64 0) (.int .i64 0) (.int .i64 0) := ⟨_, rfl⟩
            have FB := set5_blk HBR.out (.int .i64 0) (.int .i64 0) (.int .i64 0) (.int .i64 0) (.int .i64 0)
            have FE := set5_ext HEr.out (Nat.le_refl _) (.int .i64 0) (.int .i64 0) (.int .i64 0) (.int .i64 0) (.int .i64 0)
            rw [← hWF] at FB FE
            unfold set5 at hWF
            rw [← hWF]
            clear hWF
            have y0 := FB.cell 0
            have y1 := FB.cell 1
            have y2 := FB.cell 2
            have y3 := FB.cell 3
            have y4 := FB.cell 4
            refine bodyPost_ret (v := .tuple #[.agg #[.int .i64 0, .int .i64 0, .int .i64 0, .int .i64 0, .int .i64 0], .bool false]) (by simp [results, Tryd.results9, go_sem, y0, y1, y2, y3, y4]) rfl (pa_none HN.out FE)
          case pos =>
            have lB : gB < wr.heap.size := hbx.out.lt
            have b0 : wr.cell? ⟨gB, 0, none⟩ = some (.int .i64 kk) := hbx.out.cell 0
            have b1 : wr.cell? ⟨gB, 1, none⟩ = some (.int .i64 n0) := hbx.out.cell 1
            have b2 : wr.cell? ⟨gB, 2, none⟩ = some (.int .i64 n1) := hbx.out.cell 2
            have b3 : wr.cell? ⟨gB, 3, none⟩ = some (.int .i64 n2) := hbx.out.cell 3
            have b4 : wr.cell? ⟨gB, 4, none⟩ = some (.int .i64 n3) := hbx.out.cell 4
            have bz : ∀ o, wr.frozen? ⟨gB, o, none⟩ = false := fun o => hbx.out.free o
            clear hb hBr
            go_wp2_with fail
            clear b0 b1 b2 b3 b4 bz
            obtain ⟨W5, hW5⟩ : ∃ W5, W5 = wr.setCell ⟨gB, 0, none⟩ (.int .i64 (k : Int)) := ⟨_, rfl⟩
            have hB5 : Blk W5 gB 37 #[.int .i64 (k : Int), .int .i64 n0, .int .i64 n1, .int .i64 n2, .int .i64 n3] := by rw [hW5]; exact hbx.out.set 0 _
            have hE5 : Ext wq W5 := by rw [hW5]; exact HEb.out.setCell (p := ⟨gB, 0, none⟩) hgBq.out _
            rw [← hW5]
            clear hW5
            have hFx : Ext w W5 := HE1.out.trans (HB1.out.trans hE5)
            have cF := Lib.hid (impl_FormatAct (⟨(k : Int), n0, n1, n2, n3⟩ : GAct) W5 (Lib.hid (tab_ext htab.out hFx)))
            have HB5 := Lib.hid hB5
            have HE5 := Lib.hid hE5
            have HFX := Lib.hid hFx
            clear hB5 hE5 hFx hbx
            have step : ∀ (w6 : World), Ext W5 w6 → ¬ (acOk (⟨(k : Int), n0, n1, n2, n3⟩ : GAct) = true ∧ fs = actW (⟨(k : Int), n0, n1, n2, n3⟩ : GAct)) → Hid (Blk w6 gB 37 #[.int .i64 (k : Int), .int .i64 n0, .int .i64 n1, .int .i64 n2, .int .i64 n3]) ∧ Hid (∀ q : Nat, 1 ≤ q → q < k + 1 → ¬ (acOk ⟨(q : Int), n0, n1, n2, n3⟩ = true ∧ fs = actW ⟨(q : Int), n0, n1, n2, n3⟩)) ∧ Ext wq w6 := fun w6 e hk =>
              ⟨HB5.out.keep e, no_snoc (p := fun q : Nat => acOk ⟨(q : Int), n0, n1, n2, n3⟩ = true ∧ fs = actW ⟨(q : Int), n0, n1, n2, n3⟩) hno.out hk, HE5.out.trans e⟩
            have HS := Lib.hid step
            clear step
            cases hok2 : acOk (⟨(k : Int), n0, n1, n2, n3⟩ : GAct)
            case false =>
              rw [hok2] at cF
              have hbad : Hid (¬ (acOk (⟨(k : Int), n0, n1, n2, n3⟩ : GAct) = true ∧ fs = actW (⟨(k : Int), n0, n1, n2, n3⟩ : GAct))) := fun h => by rw [hok2] at h; cases h.1
              clear hok2
              go_wp2_with (go_at_call 8; refine cF.out.mono ?_; rintro e w6 ⟨rfl, hb6⟩; have HB6 := Lib.hid hb6; clear hb6)
              go_roundw
              case rel =>
                first | refine ⟨_, _, _, _, _, _, _, _, _, _, _, _, _, _, _, _, _, _, _, _, ?_, rfl⟩ | refine ⟨_, _, _, _, _, _, _, _, _, _, _, _, _, _, _, _, _, _, _, _, _, ?_, rfl⟩ | refine ⟨_, _, _, _, _, _, _, _, _, _, _, _, _, _, _, _, _, _, _, _, _, _, ?_, rfl⟩ | refine ⟨_, _, _, _, _, _, _, _, _, _, _, _, _, _, _, _, _, _, _, _, _, _, _, ?_, rfl⟩ | refine ⟨_, _, _, _, _, _, _, _, _, _, _, _, _, _, _, _, _, _, _, _, _, _, _, _, ?_, rfl⟩ | refine ⟨_, _, _, _, _, _, _, _, _, _, _, _, _, _, _, _, _, _, _, _, _, _, _, _, _, ?_, rfl⟩ | refine ⟨_, _, _, _, _, _, _, _, _, _, _, _, _, _, _, _, _, _, _, _, _, _, _, _, _, _, ?_, rfl⟩ | refine ⟨_, _, _, _, _, _, _, _, _, _, _, _, _, _, _, _, _, _, _, _, _, _, _, _, _, _, _, ?_, rfl⟩ | refine ⟨_, _, _, _, _, _, _, _, _, _, _, _, _, _, _, _, _, _, _, _, _, _, _, _, _, _, _, _, ?_, rfl⟩ | refine ⟨_, _, _, _, _, _, _, _, _, _, _, _, _, _, _, _, _, _, _, _, _, _, _, _, _, _, _, _, _, ?_, rfl⟩ | refine ⟨_, _, _, _, _, _, _, _, _, _, _, _, _, _, _, _, _, _, _, _, _, _, _, _, _, _, _, _, _, _, ?_, rfl⟩
                exact ⟨k + 1, k, by omega, by omega, by go_num, (HS.out _ HB6.out hbad.out).1, (HS.out _ HB6.out hbad.out).2.1, (HS.out _ HB6.out hbad.out).2.2⟩
              case measure => simp [intOf] <;> omega
            case true =>
              rw [hok2] at cF
              obtain ⟨T2, hT2⟩ : ∃ T2, T2 = actT (⟨(k : Int), n0, n1, n2, n3⟩ : GAct) := ⟨_, rfl⟩
              rw [← hT2] at cF
              have HT2 := Lib.hid hT2
              have HO2 := Lib.hid hok2
              clear hT2 hok2
              obtain ⟨T, hT⟩ : ∃ T, T = jb fs := ⟨_, rfl⟩
              have HT := Lib.hid hT
              have cJ : Hid (∀ w6, Ext W5 w6 → Calls Tryd.prog 27 #[.slice (some ⟨g, o, none⟩) (m + 1) c', .string ⟨#[32]⟩] w6 fun e w' => e = .returned (.string T) ∧ Ext w6 w') := Lib.hid (fun w6 e6 => by
                have e16 : Ext w1 w6 := HB1.out.trans (HE5.out.trans e6)
                have h := Tryd.strings_Join g o c' (bas fs) ⟨#[32]⟩ w6 (fun j x hj => (e16.cellAt g hg (o + j)).trans (Hcell.out j _ (bas_at hj))) (by have := e16.size; omega) (by rw [bas_len, Hml.out]; omega) (by rw [bas_len, Hml.out]; omega) (by
                  have h1 : (Lib.join fs [32]).length ≤ fs.length * (x.size + 2) := jb_len fs Hfl.out
                  have h2 := Hml.out
                  rw [bas_data]
                  show (Lib.join fs [32]).length ≤ _
                  have : x.size + 2 ≤ 602 := by omega
                  have := Nat.mul_le_mul (show fs.length ≤ 25 by omega) this
                  omega)
                rw [bas_len, Hml.out, bas_data] at h
                refine h.mono ?_
                rintro e w' ⟨rfl, hb'⟩
                exact ⟨by rw [HT.out]; rfl, hb'⟩)
              clear hT
              cases hq : (T2.toList == T.toList)
              case false =>
                have hbad : Hid (¬ (acOk (⟨(k : Int), n0, n1, n2, n3⟩ : GAct) = true ∧ fs = actW (⟨(k : Int), n0, n1, n2, n3⟩ : GAct))) := fun h => bytes_ne hq (by rw [HT2.out, actT_jb HO2.out, HT.out, ← h.2])
                go_wp2_with (first
                  | (go_at_call 8; refine cF.out.mono ?_; rintro e w6 ⟨rfl, hb6⟩; have HB6 := Lib.hid hb6; clear hb6)
                  | (go_at_call 27; refine (cJ.out _ HB6.out).mono ?_; rintro e w7 ⟨rfl, hb7⟩; have HB7 := Lib.hid (HB6.out.trans hb7); clear hb7))
                go_roundw
                case rel => first | exact ⟨k + 1, k, by omega, by omega, by go_num, (HS.out _ HB7.out hbad.out).1, (HS.out _ HB7.out hbad.out).2.1, (HS.out _ HB7.out hbad.out).2.2⟩ | ((first | refine ⟨_, _, _, _, _, _, _, _, _, _, _, _, _, _, _, _, _, _, _, _, ?_, rfl⟩ | refine ⟨_, _, _, _, _, _, _, _, _, _, _, _, _, _, _, _, _, _, _, _, _, ?_, rfl⟩ | refine ⟨_, _, _, _, _, _, _, _, _, _, _, _, _, _, _, _, _, _, _, _, _, _, ?_, rfl⟩ | refine ⟨_, _, _, _, _, _, _, _, _, _, _, _, _, _, _, _, _, _, _, _, _, _, _, ?_, rfl⟩ | refine ⟨_, _, _, _, _, _, _, _, _, _, _, _, _, _, _, _, _, _, _, _, _, _, _, _, ?_, rfl⟩ | refine ⟨_, _, _, _, _, _, _, _, _, _, _, _, _, _, _, _, _, _, _, _, _, _, _, _, _, ?_, rfl⟩ | refine ⟨_, _, _, _, _, _, _, _, _, _, _, _, _, _, _, _, _, _, _, _, _, _, _, _, _, _, ?_, rfl⟩ | refine ⟨_, _, _, _, _, _, _, _, _, _, _, _, _, _, _, _, _, _, _, _, _, _, _, _, _, _, _, ?_, rfl⟩ | refine ⟨_, _, _, _, _, _, _, _, _, _, _, _, _, _, _, _, _, _, _, _, _, _, _, _, _, _, _, _, ?_, rfl⟩ | refine ⟨_, _, _, _, _, _, _, _, _, _, _, _, _, _, _, _, _, _, _, _, _, _, _, _, _, _, _, _, _, ?_, rfl⟩ | refine ⟨_, _, _, _, _, _, _, _, _, _, _, _, _, _, _, _, _, _, _, _, _, _, _, _, _, _, _, _, _, _, ?_, rfl⟩ | refine ⟨_, _, _, _, _, _, _, _, _, _, _, _, _, _, _, _, _, _, _, _, _, _, _, _, _, _, _, _, _, _, _, ?_, rfl⟩ | refine ⟨_, _, _, _, _, _, _, _, _, _, _, _, _, _, _, _, _, _, _, _, _, _, _, _, _, _, _, _, _, _, _, _, ?_, rfl⟩ | refine ⟨_, _, _, _, _, _, _, _, _, _, _, _, _, _, _, _, _, _, _, _, _, _, _, _, _, _, _, _, _, _, _, _, _, ?_, rfl⟩ | refine ⟨_, _, _, _, _, _, _, _, _, _, _, _, _, _, _, _, _, _, _, _, _, _, _, _, _, _, _, _, _, _, _, _, _, _, ?_, rfl⟩); exact ⟨k + 1, k, by omega, by omega, by go_num, (HS.out _ HB7.out hbad.out).1, (HS.out _ HB7.out hbad.out).2.1, (HS.out _ HB7.out hbad.out).2.2⟩)
                case measure => simp [intOf] <;> omega
              case true =>
                have hfin : Hid (fieldsOf x = actW (⟨(k : Int), n0, n1, n2, n3⟩ : GAct)) := by
                  unfold Hid
                  rw [← Hfs.out]
                  exact act_words HO2.out Hfg.out (fun h => by have := Hml.out; rw [h] at this; simp at this) (by rw [← HT2.out, bytes_eq hq, HT.out])
                go_wp2_with (first
                  | (go_at_call 8; refine cF.out.mono ?_; rintro e w6 ⟨rfl, hb6⟩; have HB6 := Lib.hid hb6; clear hb6)
                  | (go_at_call 27; refine (cJ.out _ HB6.out).mono ?_; rintro e w7 ⟨rfl, hb7⟩; have HB7 := Lib.hid (HB6.out.trans hb7); have X7 := Lib.hid (HB5.out.keep HB7.out); have x0 := X7.out.cell 0; have x1 := X7.out.cell 1; have x2 := X7.out.cell 2; have x3 := X7.out.cell 3; have x4 := X7.out.cell 4; have D7 := Lib.hid (hB1.keep (HB1.out.trans (HE5.out.trans HB7.out))); have d0 := D7.out.cell 0; have d1 := D7.out.cell 1; have d2 := D7.out.cell 2; have d3 := D7.out.cell 3; have d4 := D7.out.cell 4; have dz : ∀ o, w7.frozen? ⟨w.heap.size, o, none⟩ = false := fun o => D7.out.free o; clear hb7))
                obtain ⟨WF, hWF⟩ : ∃ WF, WF = set5 w7 w.heap.size (.int .i64 (k : Int)) (.int .i64 n0) (.int .i64 n1) (.int .i64 n2) (.int .i64 n3) := ⟨_, rfl⟩
                have FB := set5_blk D7.out (.int .i64 (k : Int)) (.int .i64 n0) (.int .i64 n1) (.int .i64 n2) (.int .i64 n3)
                have FE := set5_ext (HFX.out.trans HB7.out) (Nat.le_refl _) (.int .i64 (k : Int)) (.int .i64 n0) (.int .i64 n1) (.int .i64 n2) (.int .i64 n3)
                rw [← hWF] at FB FE
                unfold set5 at hWF
                rw [← hWF]
                clear hWF
                have y0 := FB.cell 0
                have y1 := FB.cell 1
                have y2 := FB.cell 2
                have y3 := FB.cell 3
                have y4 := FB.cell 4
                refine bodyPost_ret (v := .tuple #[.agg #[.int .i64 (k : Int), .int .i64 n0, .int .i64 n1, .int .i64 n2, .int .i64 n3], .bool true]) (by simp [results, Tryd.results9, go_sem, y0, y1, y2, y3, y4]) rfl (pa_some (⟨(k : Int), n0, n1, n2, n3⟩ : GAct) HOK.out HO2.out hfin.out FE)
end Go.Proofs.YtfhibjehnoibeaaDoor
/- ScriptText of both sides; no condition but what stands at each theorem. -/
namespace Go.Proofs.YtfhibjehnoibeaaDoor
set_option linter.unusedSimpArgs false
set_option linter.unusedVariables false
open Go.RowKit Go.Sort
/-- A string appended to a row of bytes of the call's own. -/
theorem appendStr {ops : Array Oper} {rest : List Oper} {o : Oper} {a : Act} {Q : Exit → Act → World → Prop} (hgd : o.guard = none) (sl x : Operand)
    (ho : o.op = .call { callee := .builtin .append, args := #[sl, x], argTypes := #[22, 9] }) (base : Nat) (W : World) (v : Value) (n : Nat) (xs : List Value) (hs : a.eval sl = v) (hown : W.ownsRow base 5 1 v n xs)
    (s : ByteArray) (hx : a.eval x = .string s) (hn : n + s.size ≤ 1048576) (hbase : base ≤ W.heap.size)
    (h : ∀ v' w', w'.ownsRow base 5 1 v' (n + s.size) (xs ++ Lib.strCells s) → (∀ b, Ext b W → b.heap.size ≤ base → Ext b w') → wpList Tryd.prog ops Q rest (a.put o.dst v') w') : wpList Tryd.prog ops Q (o :: rest) a W := by
  have hin : (Tryd.prog.info? 5).map (fun i => (i.zero, i.size, i.bytes)) = some (some (.int .u8 0), 1, 1) := by kernel_rfl
  cases hi : Tryd.prog.info? 5 with
  | none => rw [hi] at hin; cases hin
  | some i =>
    rw [hi] at hin
    simp only [Option.map_some, Option.some.injEq, Prod.mk.injEq] at hin
    obtain ⟨hz, hsz, hby⟩ := hin
    refine Lib.wpList_append_own_string (w := W) hgd sl x 22 9 ho base 5 i Tryd.underlying22 Tryd.underlying9 hi hz hsz hby v n xs hs hown s hx (by unfold maxLen; omega) (by omega) hbase ?_
    intro v' w' h2 h3 _
    refine h v' w' h2 fun b hb hbb => Ext.grown hb h3 fun k hk => ?_
    rcases hown.2 with ⟨rfl, _⟩ | ⟨g, cap, cur, rfl, hg, _⟩
    · cases hk
    · injection hk with hk
      subst hk
      show b.heap.size ≤ g
      omega
theorem conv_own (w : World) (base : Nat) (v : Value) (s : ByteArray) (A : Option Addr) (n c : Nat) (hv : v = .slice A n c) (h : w.ownsRow base 5 1 v n (Lib.strCells s)) (hn : n = s.size) (hA : ∃ a, A = some a) :
    (convert 22 9 v).run Tryd.prog w = .ok (.string s) w := by
  subst hv hn
  obtain ⟨a, rfl⟩ := hA
  have hl : s.data.toList.length = s.size := by rw [Array.length_toList]; rfl
  obtain ⟨-, -, hr⟩ := Rd.of_own h
  have := run_convert_bytes_back (P := Tryd.prog) w 22 9 5 a c s.data.toList Tryd.underlying22 Tryd.underlying5 Tryd.underlying9 (by
    intro j hj
    obtain ⟨b, o, e, hb, hc⟩ := hr (by omega)
    injection e with e
    subst e
    rw [show (Addr.add ⟨b, o, none⟩ j) = ⟨b, o + j, none⟩ by simp [Addr.add]]
    exact hc j _ (by rw [Lib.strCells, List.getElem?_map, List.getElem?_eq_getElem hj]; rfl))
  rw [hl] at this
  exact this
def nl1 : ByteArray := ⟨#[10]⟩
/-- The texts of acts, each closed by a new line, behind a text. -/
def scF (t : ByteArray) : List GAct → ByteArray
  | [] => t
  | a :: r => scF (t ++ (actT a ++ nl1)) r
def scOk (ac : List GAct) : Bool := decide (ac.length ≤ 40) && ac.all acOk
def scT (ac : List GAct) : ByteArray := if scOk ac then scF ⟨#[]⟩ ac else ⟨#[]⟩
theorem actT_size (a : GAct) : (actT a).size ≤ 96 := by
  unfold actT
  split
  · next hok =>
    obtain ⟨hk, hx, hy, hz, hu⟩ := ac_cases hok
    have h1 := numsF_size ([a.a, a.b, a.c, a.d].take (cntOf a.k)) (wordOf a.k) (fun v hv => vals_ok hx hy hz hu v (List.mem_of_mem_take hv))
    have h2 : ([a.a, a.b, a.c, a.d].take (cntOf a.k)).length ≤ 4 := by rw [List.length_take]; simp; omega
    have h3 : (wordOf a.k).size ≤ 5 := by
      unfold wordOf
      repeat (split; decide)
      decide
    omega
  · decide
theorem strCells_app (a b : ByteArray) : Lib.strCells (a ++ b) = Lib.strCells a ++ Lib.strCells b := by
  simp [Lib.strCells]
theorem sc_bad {ac : List GAct} {k : Nat} {a : GAct} (h : ac[k]? = some a) (ha : acOk a = false) : scOk ac = false := by
  unfold scOk
  rw [Bool.and_eq_false_iff]
  right
  rw [Bool.eq_false_iff]
  intro hall
  rw [List.all_eq_true] at hall
  rw [hall a (List.mem_of_getElem? h)] at ha
  cases ha
theorem sc_long {ac : List GAct} (h : 40 < ac.length) : scOk ac = false := by
  unfold scOk
  rw [Bool.and_eq_false_iff]
  left
  simp; omega
theorem all_snoc {ac : List GAct} {k : Nat} {a : GAct} (h : ac[k]? = some a) (ha : acOk a = true) (hh : (ac.take k).all acOk = true) : (ac.take (k + 1)).all acOk = true := by
  rw [List.take_add_one, h, List.all_append, hh]
  simp [ha]
end Go.Proofs.YtfhibjehnoibeaaDoor
/- Scripts read line by line, and texts of acts read back, in plain Lean; no condition. -/
namespace Go.Proofs.YtfhibjehnoibeaaDoor
set_option linter.unusedSimpArgs false
set_option linter.unusedVariables false
open Go.RowKit Go.Sort
theorem wd_tailR : ∀ (fs : List (List UInt8)) (cur r : List UInt8), cur ≠ [] → (∀ f ∈ fs, f ≠ [] ∧ bfree f) → wds cur (Lib.joinTail [32] fs ++ 32 :: r) = cur :: (fs ++ wds [] r)
  | [], cur, r, h, _ => by
    rw [show Lib.joinTail [32] [] ++ 32 :: r = (32 : UInt8) :: r from rfl, wd_n h]; rfl
  | g :: fs, cur, r, h, hf => by
    have hg := hf g (List.mem_cons_self ..)
    rw [show Lib.joinTail [32] (g :: fs) ++ 32 :: r = 32 :: (g ++ (Lib.joinTail [32] fs ++ 32 :: r)) by simp [Lib.joinTail], wd_n h, wd_word g [] _ hg.2, List.nil_append, wd_tailR fs g r hg.1 (fun f h => hf f (List.mem_cons_of_mem _ h))]
    rfl
theorem wd_joinR {f : List UInt8} {fs : List (List UInt8)} (r : List UInt8) (hf : ∀ g ∈ f :: fs, g ≠ [] ∧ bfree g) : wds [] (Lib.join (f :: fs) [32] ++ 32 :: r) = f :: fs ++ wds [] r := by
  have h := hf f (List.mem_cons_self ..)
  rw [Lib.join_cons, List.append_assoc, wd_word f [] _ h.2, List.nil_append, wd_tailR fs f r h.1 (fun g hg => hf g (List.mem_cons_of_mem _ hg))]
  rfl
theorem actW_cons (a : GAct) : ∃ f fs, actW a = f :: fs := ⟨_, _, rfl⟩
theorem actT_list {a : GAct} (h : acOk a = true) : (actT a).data.toList = Lib.join (actW a) [32] := by rw [actT_jb h]; simp [jb]
theorem act_fields {a : GAct} (h : acOk a = true) : fieldsOf (actT a) = actW a := by
  unfold fieldsOf
  rw [actT_list h]
  have hg := actW_good h
  obtain ⟨f, fs, e⟩ := actW_cons a
  rw [e] at hg ⊢
  rw [wd_joinR [] hg, wd_nil, List.append_nil]
theorem word_pr {k : Int} : prL (wordOf k).data.toList := by
  unfold wordOf
  intro b hb
  revert b
  repeat (split; decide)
  decide
theorem actW_pr {a : GAct} (h : acOk a = true) : ∀ l ∈ actW a, prL l := by
  obtain ⟨hk, hx, hy, hz, hu⟩ := ac_cases h
  intro l hl
  unfold actW at hl
  rcases List.mem_cons.1 hl with rfl | hl
  · exact word_pr
  · obtain ⟨x, hx', rfl⟩ := List.mem_map.1 hl
    exact itext_pr (vals_ok hx hy hz hu x (List.mem_of_mem_take hx')).1
theorem actT_pr {a : GAct} (h : acOk a = true) : prL (actT a).data.toList := by
  rw [actT_list h]
  exact pr_join (actW_pr h)
theorem act_sp {a : GAct} (h : acOk a = true) : spOk (actT a) = true := by
  unfold spOk
  rw [act_fields h, Bool.and_eq_true, Bool.and_eq_true]
  refine ⟨⟨?_, ?_⟩, ?_⟩
  · have := actT_size a; simp; omega
  · rw [prB_iff]; exact actT_pr h
  · have := (actW_len a).2; simp; omega
/-- An act's text between blanks. -/
def padT (x : ByteArray) : ByteArray := (⟨#[32, 32]⟩ : ByteArray) ++ x ++ sp1
theorem pad_list (x : ByteArray) : (padT x).data.toList = 32 :: 32 :: (x.data.toList ++ [32]) := by simp [padT, sp1]
theorem pad_fields {a : GAct} (h : acOk a = true) : fieldsOf (padT (actT a)) = actW a := by
  unfold fieldsOf
  rw [pad_list, actT_list h]
  have hg := actW_good h
  obtain ⟨f, fs, e⟩ := actW_cons a
  rw [e] at hg ⊢
  rw [List.cons_append, List.cons_append, wd_e, wd_e, List.append_assoc, show ([32] ++ [32] : List UInt8) = 32 :: [32] from rfl, wd_joinR [32] hg, wd_e, wd_nil, List.append_nil]
theorem pad_sp {a : GAct} (h : acOk a = true) : spOk (padT (actT a)) = true := by
  have hs : (padT (actT a)).size = (actT a).size + 3 := by
    rw [← toList_size, pad_list]; simp
  unfold spOk
  rw [pad_fields h, Bool.and_eq_true, Bool.and_eq_true]
  refine ⟨⟨?_, ?_⟩, ?_⟩
  · have := actT_size a; simp; omega
  · rw [prB_iff, pad_list]
    have hp := actT_pr h
    intro b hb
    simp only [List.mem_cons, List.mem_append, List.not_mem_nil, or_false] at hb
    rcases hb with rfl | rfl | hb | rfl
    · decide
    · decide
    · exact hp b hb
    · decide
  · have := (actW_len a).2; simp; omega
theorem pad_PA {a : GAct} (h : acOk a = true) {a' : GAct} {b : Bool} (hp : PA (padT (actT a)) a' b) : a' = a ∧ b = true := pa_eq hp (.inl ⟨rfl, pad_sp h, h, pad_fields h⟩)
open Classical in
noncomputable def parseA (x : ByteArray) : GAct × Bool := if h : ∃ a, spOk x = true ∧ acOk a = true ∧ fieldsOf x = actW a then (h.choose, true) else (⟨0, 0, 0, 0, 0⟩, false)
theorem parseA_PA (x : ByteArray) : PA x (parseA x).1 (parseA x).2 := by
  unfold parseA
  split
  · rename_i h
    exact .inl ⟨rfl, h.choose_spec.1, h.choose_spec.2.1, h.choose_spec.2.2⟩
  · rename_i h
    exact .inr ⟨rfl, rfl, fun a' h0 h1 h2 => h ⟨a', h0, h1, h2⟩⟩
theorem parseA_of {x : ByteArray} {a : GAct} {b : Bool} (h : PA x a b) : parseA x = (a, b) := by
  obtain ⟨h1, h2⟩ := pa_eq (parseA_PA x) h
  exact Prod.ext h1 h2
def blankB (x : ByteArray) : Bool := spOk x && decide ((fieldsOf x).length = 0)
noncomputable def scR : List ByteArray → List GAct → Option (List GAct)
  | [], acc => some acc
  | x :: r, acc => if blankB x then scR r acc else if (parseA x).2 then scR r (acc ++ [(parseA x).1]) else none
def linesB (x : ByteArray) : List ByteArray := (cuts 10 x.data.toList).map fun l => ⟨l.toArray⟩
noncomputable def scriptO (x : ByteArray) : Option (List GAct) := if x.size ≤ 20000 then (scR (linesB x) []).bind fun l => if l.length ≤ 40 then some l else none else none
noncomputable def outL (acts : List GAct) : List ByteArray := (runL sampleM acts).map itext ++ fmtL (runM sampleM acts)
noncomputable def scriptL (x : ByteArray) : List ByteArray := match scriptO x with
  | none => []
  | some l => outL l
noncomputable def scriptB (x : ByteArray) : Bool := (scriptO x).isSome
theorem cuts_script : ∀ (acts : List GAct), acts.all acOk = true → cuts 10 (acts.flatMap fun a => (actT a).data.toList ++ [10]) = (acts.map fun a => (actT a).data.toList) ++ [[]]
  | [], _ => rfl
  | a :: r, h => by
    rw [List.all_cons, Bool.and_eq_true] at h
    rw [List.flatMap_cons, List.append_assoc, show ([10] ++ r.flatMap fun a => (actT a).data.toList ++ [10]) = (10 : UInt8) :: (r.flatMap fun a => (actT a).data.toList ++ [10]) from rfl, cuts_app _ (fun b hb e => ?_), cuts_script r h.2]
    · rfl
    · have := actT_pr h.1 b hb
      rw [e] at this
      exact absurd this.1 (by decide)
theorem scF_list : ∀ (acts : List GAct) (t : ByteArray), (scF t acts).data.toList = t.data.toList ++ acts.flatMap fun a => (actT a).data.toList ++ [10]
  | [], t => by simp [scF]
  | a :: r, t => by rw [scF, scF_list r]; simp [nl1]
theorem scR_acts : ∀ (acts acc : List GAct), acts.all acOk = true → scR ((acts.map actT) ++ [⟨#[]⟩]) acc = some (acc ++ acts)
  | [], acc, _ => by
    rw [List.map_nil, List.nil_append, scR, if_pos (by decide), scR, List.append_nil]
  | a :: r, acc, h => by
    rw [List.all_cons, Bool.and_eq_true] at h
    have hp : parseA (actT a) = (a, true) := parseA_of (.inl ⟨rfl, act_sp h.1, h.1, act_fields h.1⟩)
    have hb : blankB (actT a) = false := by
      unfold blankB
      rw [act_fields h.1]
      have := (actW_len a).1
      simp only [Bool.and_eq_false_iff, decide_eq_false_iff_not]
      right; omega
    rw [List.map_cons, List.cons_append, scR, if_neg (by rw [hb]; decide), hp, if_pos rfl, scR_acts r _ h.2, List.append_assoc]
    rfl
theorem scF_size : ∀ (acts : List GAct) (t : ByteArray), (scF t acts).size ≤ t.size + 97 * acts.length
  | [], t => by simp [scF]
  | a :: r, t => by
    have h1 := scF_size r (t ++ (actT a ++ nl1))
    have h2 := actT_size a
    rw [ByteArray.size_append, ByteArray.size_append] at h1
    have : nl1.size = 1 := rfl
    rw [scF]
    simp only [List.length_cons]
    omega
theorem script_back {acts : List GAct} (h : scOk acts = true) : scriptO (scT acts) = some acts := by
  unfold scT
  rw [if_pos h]
  unfold scOk at h
  simp only [Bool.and_eq_true, decide_eq_true_eq] at h
  have hs := scF_size acts ⟨#[]⟩
  have h0 : (⟨#[]⟩ : ByteArray).size = 0 := rfl
  have hl : linesB (scF ⟨#[]⟩ acts) = acts.map actT ++ [⟨#[]⟩] := by
    unfold linesB
    rw [scF_list, show (⟨#[]⟩ : ByteArray).data.toList = [] from rfl, List.nil_append, cuts_script acts h.2, List.map_append, List.map_map]
    rfl
  unfold scriptO
  rw [if_pos (by omega), hl, scR_acts acts [] h.2, List.nil_append]
  show (if acts.length ≤ 40 then some acts else none) = some acts
  rw [if_pos h.1]
end Go.Proofs.YtfhibjehnoibeaaDoor
