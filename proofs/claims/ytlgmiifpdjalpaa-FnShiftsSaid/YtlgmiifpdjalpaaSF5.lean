/- Contract of FillShifts of the reference: the walk; no condition but what stands at each theorem. -/
import Derived.Test.YtlgmiifpdjalpaaSF4
namespace Go.Proofs.Ytlgmiifpdjalpaa
set_option linter.unusedSimpArgs false
set_option linter.unusedVariables false
open Go.RowKit Go.Sort
def BBlk (w : World) (g : Nat) (t : TypeId) (u : List Bool) : Prop := Blk w g t (u.map Value.bool).toArray
theorem BBlk.cell {w : World} {g : Nat} {t : TypeId} {u : List Bool} (h : BBlk w g t u) {i : Nat} {b : Bool} (hi : u[i]? = some b) : w.cell? ⟨g, i, none⟩ = some (.bool b) := by
  rw [Blk.cell h]; simp [hi]
theorem BBlk.set {w : World} {g : Nat} {t : TypeId} {u : List Bool} (h : BBlk w g t u) (i : Nat) (x : Bool) : BBlk (w.setCell ⟨g, i, none⟩ (.bool x)) g t (u.set i x) := by
  have := Blk.set h i (.bool x)
  unfold BBlk
  rw [List.map_set, ← List.setIfInBounds_toArray]
  exact this
set_option maxRecDepth 100000 in
set_option maxHeartbeats 8000000 in
theorem spec_FillShifts (A : Option Addr) (n c : Nat) (xs : List GShift) (rest : Int) (w : World) (hx : Rd w 3 A n (xs.flatMap GShift.enc)) :
    Calls Try.prog 66 #[.slice A n c, .int .i64 rest] w (FillPost xs rest w) := by
  have hl := Lib.hid (hx.len GShift.len (by omega))
  have cA := Lib.hid (spec_l32Valid A n c xs w hx)
  have cB := Lib.hid (fun W => spec_l01In rest 0 1000 W)
  have HX := Lib.hid hx
  clear hx
  cases hv : (xs.all shOk && decide (xs.length ≤ 20))
  case false =>
    have HF : Hid (fillL xs rest = []) := by unfold Hid fillL fillV; rw [hv]; rfl
    rw [hv] at cA
    clear hv
    go_enter Try.func66, Try.ntmps66
    go_wp2_with (refine cA.out.mono ?_; rintro e w1 ⟨rfl, hb1⟩; have HB1 := Lib.hid hb1; clear hb1)
    go_ret
    refine ⟨_, rfl, HB1.out.alloc _, ?_⟩
    rw [HF.out]
    exact own_weak (own_empty w1 w1.heap.size 3 1 (Nat.le_refl _)) HB1.out.size
  case true =>
  rw [hv] at cA
  cases hr : inB rest 0 1000
  case false =>
    have HF : Hid (fillL xs rest = []) := by unfold Hid fillL fillV; rw [hv, hr]; rfl
    rw [hr] at cB
    clear hv hr
    go_enter Try.func66, Try.ntmps66
    go_wp2_with (first | (refine cA.out.mono ?_; rintro e w1 ⟨rfl, hb1⟩; have HB1 := Lib.hid hb1; clear hb1) | (refine (cB.out _).mono ?_; rintro e w2 ⟨rfl, rfl⟩))
    go_ret
    refine ⟨_, rfl, HB1.out.alloc _, ?_⟩
    rw [HF.out]
    exact own_weak (own_empty w1 w1.heap.size 3 1 (Nat.le_refl _)) HB1.out.size
  case true =>
  have HV : Hid (fillV xs rest = true) := by unfold Hid fillV; rw [hv, hr]; rfl
  have hbr : 0 ≤ rest ∧ rest ≤ 1000 := by simpa [inB] using hr
  have hok : Hid (xs.all shOk = true) := by unfold Hid; simp at hv; simpa using hv.1
  have hn : n ≤ 20 := by have := hl.out; simp at hv; omega
  rw [hr] at cB
  clear hv hr
  have hm1 := mk_intB n (by omega)
  obtain ⟨Z1, hZ1⟩ : ∃ Z, Z = ((List.replicate n (0 : Int)).map (Value.int .i64)).toArray := ⟨_, rfl⟩
  simp only [← hZ1] at hm1
  have hm2 := mk_boolF n (by omega)
  obtain ⟨Z2, hZ2⟩ : ∃ Z, Z = ((List.replicate n false).map Value.bool).toArray := ⟨_, rfl⟩
  simp only [← hZ2] at hm2
  have hm3 : ∀ w : World, (Instr.makeSlice 31 (.int .i64 ((n : Int) + 1)) (.int .i64 ((n : Int) + 1))).run Try.prog w = .ok (.slice (some ⟨w.heap.size, 0, none⟩) (n + 1) (n + 1)) (w.alloc (.cells ((List.replicate (n + 1) (0 : Int)).map (Value.int .i64)).toArray 3)) := fun w => mk_intB (n + 1) (by omega) w
  obtain ⟨Z3, hZ3⟩ : ∃ Z, Z = ((List.replicate (n + 1) (0 : Int)).map (Value.int .i64)).toArray := ⟨_, rfl⟩
  simp only [← hZ3] at hm3
  have HZ := Lib.hid (And.intro hZ1 (And.intro hZ2 hZ3))
  clear hZ1 hZ2 hZ3
  go_enter Try.func66, Try.ntmps66
  go_wp2_with (first | (refine cA.out.mono ?_; rintro e w1 ⟨rfl, hb1⟩; have HB1 := Lib.hid hb1; have z1 := hb1.size; clear hb1) | (refine (cB.out _).mono ?_; rintro e w2 ⟨rfl, rfl⟩))
  clear hm1 hm2 hm3
  obtain ⟨wa, hwa⟩ : ∃ wa, wa = w1.alloc (.cells Z1 3) := ⟨_, rfl⟩
  rw [← hwa]
  obtain ⟨wd, hwd⟩ : ∃ wd, wd = wa.alloc (.cells Z2 4) := ⟨_, rfl⟩
  rw [← hwd]
  obtain ⟨wf, hwf⟩ : ∃ wf, wf = wd.alloc (.cells Z3 3) := ⟨_, rfl⟩
  rw [← hwf]
  have hEa : Ext w1 wa := by rw [hwa]; exact (Ext.refl _).alloc _
  have hEd : Ext wa wd := by rw [hwd]; exact (Ext.refl _).alloc _
  have hEf : Ext wd wf := by rw [hwf]; exact (Ext.refl _).alloc _
  have hsa : wa.heap.size = w1.heap.size + 1 := by rw [hwa]; simp
  have hsd : wd.heap.size = w1.heap.size + 1 + 1 := by rw [hwd]; simp; omega
  have hIo : Hid (IBlk wf w1.heap.size 3 (List.replicate n 0)) := by
    refine Blk.keep ?_ (hEd.trans hEf)
    rw [hwa, HZ.out.1]; exact Blk.new _ _ _
  have hId : Hid (BBlk wf (w1.heap.size + 1) 4 (doneL n [])) := by
    unfold Hid
    rw [doneL_nil, ← hsa]
    refine Blk.keep ?_ hEf
    rw [hwd, HZ.out.2.1]; exact Blk.new _ _ _
  have hIf : Hid (IBlk wf (w1.heap.size + 1 + 1) 3 (freeL n rest [])) := by
    unfold Hid
    rw [show freeL n rest [] = List.replicate (n + 1) 0 from rfl, ← hsd, hwf, HZ.out.2.2]
    exact Blk.new _ _ _
  have HEf := Lib.hid (hEa.trans (hEd.trans hEf))
  try rw [hsa]
  try rw [hsd]
  have HX1 := Lib.hid (HX.out.keep HB1.out)
  clear hwa hwd hwf hEa hEd hEf hsa hsd
  go_loopw [8] (fun iv wr => ∃ (j : Nat) (p : List Nat) (st u : List Int), j ≤ n ∧ iv = .int .i64 j ∧ Hid (p.length = j) ∧ Hid ((st, u) = fillS xs rest p) ∧ Hid (Srv xs n p) ∧ Hid (IBlk wr w1.heap.size 3 u) ∧ Hid (BBlk wr (w1.heap.size + 1) 4 (doneL n p)) ∧ Hid (IBlk wr (w1.heap.size + 1 + 1) 3 (freeL n rest st)) ∧ Ext w1 wr) (fun iv _ => n - (intOf iv).toNat)
  case atStart => exact ⟨0, [], [], List.replicate n 0, Nat.zero_le _, rfl, rfl, by unfold Hid; rw [← hl.out]; rfl, Lib.hid (Srv.nil xs n), hIo, hId, hIf, HEf.out⟩
  case round =>
    obtain ⟨j, p, st, u, hjn, rfl, hpl, hfs, hsv, hI, hD, hF, hb⟩ := hrel
    have hul : u.length = n := by
      have := fillS_out xs rest p
      rw [← hfs.out] at this
      rw [← hl.out]; exact this
    have hsl : st.length ≤ j := by
      have := fillS_st xs rest p
      rw [← hfs.out, hpl.out] at this
      exact this
    have HB2 := Lib.hid hb
    have zr := hb.size
    have lf := hF.out.lt
    clear hb
    by_cases hlt : j < n
    · go_wp2_with fail
      obtain ⟨wq, rfl⟩ : ∃ wq, wq = wr := ⟨_, rfl⟩
      have HXq := Lib.hid (HX1.out.keep HB2.out)
      go_loopw [9, 10] (fun av kv wr => ∃ (k : Nat) (a : Int), k ≤ n ∧ kv = .int .i64 k ∧ av = .int .i64 a ∧ Hid (AtP xs p k a) ∧ Ext wq wr) (fun _ kv _ => n - (intOf kv).toNat)
      case atStart => exact ⟨0, -1, Nat.zero_le _, rfl, rfl, Lib.hid (AtP.zero _ _), Ext.refl _⟩
      case round =>
        obtain ⟨k, a, hk, rfl, rfl, hat, hb⟩ := hrel
        have HB3 := Lib.hid hb
        by_cases hlk : k < n
        · have hlki : (k : Int) < n := by omega
          have cd := BBlk.cell (Blk.keep hD.out hb) (doneL_at p hlk)
          have ld : w1.heap.size + 1 < wr.heap.size := by have := hb.size; omega
          have ed := cell_regrown cd
          by_cases hkp : k ∈ p
          · rw [show decide (k ∈ p) = true by simpa using hkp] at cd ed
            have HA := Lib.hid (hat.out.skip hkp)
            clear hb hkp
            go_wp2_with fail
            (refine wp_region_ext (by kernel_rfl) (by kernel_rfl) ?_; (repeat (go_big_quiet_step (first | fail))); refine wpQuiet_nil ?_)
            intro w2 hb2
            go_wp2_with fail
            go_roundw
            case rel => exact ⟨k + 1, a, by omega, by go_num, rfl, HA, HB3.out.trans hb2⟩
            case measure => simp [intOf]; omega
          · rw [show decide (k ∈ p) = false by simpa using hkp] at cd ed
            by_cases ha : a = -1
            · subst ha
              have HA := Lib.hid (hat.out.first hkp)
              clear hb hkp
              go_wp2_with fail
              (refine wp_region_ext (by kernel_rfl) (by kernel_rfl) ?_; (repeat (go_big_quiet_step (first | fail))); refine wpQuiet_nil ?_)
              intro w2 hb2
              go_wp2_with fail
              go_roundw
              case rel => exact ⟨k + 1, k, by omega, by go_num, rfl, HA, HB3.out.trans hb2⟩
              case measure => simp [intOf]; omega
            · obtain ⟨i, rfl, hik⟩ : ∃ i : Nat, a = i ∧ i < k := by
                rcases hat.out with ⟨h, _⟩ | ⟨i, h, hi, _⟩
                · exact absurd h ha
                · exact ⟨i, h, hi⟩
              obtain ⟨b, off, x, rfl, hbs, hxk, h0, h1, h2⟩ := GShift.at_ (HXq.out.keep hb) hlk
              obtain ⟨b', off', y, he, hbs', hyi, k0, k1, k2⟩ := GShift.at_ (HXq.out.keep hb) (show i < n by omega)
              simp at he
              obtain ⟨rfl, rfl⟩ := he
              have hii : (i : Int) < n := by omega
              have hin : i < n := by omega
              have hi0 : ¬ (i : Int) < 0 := by omega
              have di : decide ((i : Int) < 0) = false := decide_eq_false hi0
              clear hi0
              have e1 := cell_regrown h1
              have e2 := cell_regrown k1
              have HK := Lib.hid (fun h => hat.out.keep (i := i) h)
              have HL := Lib.hid (fun h => hat.out.less (i := i) hkp h)
              rw [shF_at hxk, shF_at hyi] at HK HL
              clear hb hkp hxk hyi
              by_cases hc : x.f < y.f
              · have HA := Lib.hid (HL.out hc)
                clear HK HL
                go_wp2_with fail
                (refine wp_region_ext (by kernel_rfl) (by kernel_rfl) ?_; (repeat (go_big_quiet_step (first | fail))); refine wpQuiet_nil ?_)
                intro w2 hb2
                go_wp2_with fail
                go_roundw
                case rel => exact ⟨k + 1, k, by omega, by go_num, rfl, HA, HB3.out.trans hb2⟩
                case measure => simp [intOf]; omega
              · have HA := Lib.hid (HK.out hc)
                clear HK HL
                go_wp2_with fail
                (refine wp_region_ext (by kernel_rfl) (by kernel_rfl) ?_; (repeat (go_big_quiet_step (first | fail))); refine wpQuiet_nil ?_)
                intro w2 hb2
                go_wp2_with fail
                go_roundw
                case rel => exact ⟨k + 1, i, by omega, by go_num, rfl, HA, HB3.out.trans hb2⟩
                case measure => simp [intOf]; omega
        · obtain rfl : k = n := by omega
          obtain ⟨i, rfl, hik, hip, him⟩ : ∃ i : Nat, a = i ∧ i < k ∧ i ∉ p ∧ ∀ b, b < k → b ∉ p → lexL xs i b = true := by
            rcases hat.out with ⟨_, h⟩ | h
            · obtain ⟨b, hb1, hb2⟩ := exists_out k p (by rw [hpl.out]; exact hlt)
              exact absurd (h b hb1) hb2
            · exact h
          have hsv2 := Lib.hid (hsv.out.snoc hik hip him)
          have hat2 := Lib.hid (hat.out)
          obtain ⟨b, off, x, rfl, hbs, hxi, h0, h1, h2⟩ := GShift.at_ (HX1.out) hik
          have hxb := sh_bd hok.out hxi
          have HSTEP : Hid (fillS xs rest (p ++ [i]) = (putG st (pickG st x.f rest) x.t, u.set i (pickG st x.f rest : Nat))) := by
            unfold Hid; rw [fillS_snoc, ← hfs.out, ← shF_at hxi, ← shT_at hxi]; rfl
          have hiki : (i : Int) < k := by omega
          have H1 := Lib.hid h1
          have H2 := Lib.hid h2
          clear hb him hxi h0 h1 h2 hat
          go_wp2_with fail
          obtain ⟨wp, rfl⟩ : ∃ wp, wp = wr := ⟨_, rfl⟩
          go_loopw [11] (fun gv wr => ∃ (q : Nat), q ≤ st.length ∧ gv = .int .i64 q ∧ Hid (∀ m, m < q → ¬ st.getD m 0 + rest ≤ x.f) ∧ Ext wp wr) (fun gv _ => st.length - (intOf gv).toNat)
          case atStart => exact ⟨0, Nat.zero_le _, rfl, Lib.hid (fun m h => absurd h (by omega)), Ext.refl _⟩
          case round =>
            obtain ⟨q, hq, rfl, hno, hb⟩ := hrel
            have HB4 := Lib.hid hb
            have e4 := HB3.out.trans hb
            have hfl := freeL_len (n := k) (rest := rest) (st := st) (by omega)
            have hF4 := hF.out.keep e4
            have cf := hF4.cell (i := q) (by rw [hfl]; omega)
            have f1 := ((HB2.out.trans e4).cellAt b hbs _).trans H1.out
            have z4 := e4.size
            have lf4 : w1.heap.size + 1 + 1 < wr.heap.size := by omega
            have lb4 : b < wr.heap.size := by omega
            have hqk : (q : Int) < (k : Int) + 1 := by omega
            have hqk2 : q < k + 1 := by omega
            obtain ⟨v, hv⟩ : ∃ v, v = (freeL k rest st).getD q 0 := ⟨_, rfl⟩
            rw [← hv] at cf
            have Hv := Lib.hid hv
            clear hv hb
            by_cases hgo : x.f < v
            · have hqs : q < st.length := by
                by_cases h : q < st.length
                · exact h
                · exfalso
                  obtain rfl : q = st.length := by omega
                  have := Hv.out
                  rw [freeL_new] at this
                  omega
              have HN : Hid (∀ m, m < q + 1 → ¬ st.getD m 0 + rest ≤ x.f) := fun m hm => by
                by_cases h : m < q
                · exact hno.out m h
                · obtain rfl : m = q := by omega
                  have := Hv.out
                  rw [freeL_used hqs] at this
                  omega
              clear hno hF4
              go_wp2_with fail
              go_quiet (fail)
              go_wp2_with fail
              go_roundw
              case rel => exact ⟨q + 1, by omega, by go_num, Lib.hid (fun m hm => by have := HN.out m hm; omega), HB4.out.drewN _⟩
              case measure => simp [intOf]; omega
            · have hpk : pickG st x.f rest = q := by
                by_cases h : q < st.length
                · refine pickG_at h ?_ hno.out
                  have := Hv.out
                  rw [freeL_used h] at this
                  omega
                · obtain rfl : q = st.length := by omega
                  exact pickG_none hno.out
              rw [hpk] at HSTEP
              clear hno hpk
              have ew : IntKind.i64.wrap (x.t + rest) = x.t + rest := IntWalk.i64_in _ (by omega)
              have ew2 : wrap64 (x.t + rest) = x.t + rest := IntWalk.wrap64_in _ (by omega)
              have f2 := ((HB2.out.trans e4).cellAt b hbs _).trans H2.out
              have hI4 := hI.out.keep e4
              have hD4 := Blk.keep hD.out e4
              have o0 := IBlk.cell hI4 (i := i) (by rw [hul]; exact hik)
              have o1 := IBlk.free hI4 i
              have d0 := BBlk.cell hD4 (doneL_at p hik)
              have d1 := Blk.free hD4 i
              have v1 := IBlk.free hF4 q
              have nb0 : b ≠ w1.heap.size := by omega
              have nb1 : b ≠ w1.heap.size + 1 := by omega
              have nb2 : b ≠ w1.heap.size + 1 + 1 := by omega
              have lw4 : w1.heap.size < wr.heap.size := by omega
              have ld4 : w1.heap.size + 1 < wr.heap.size := by omega
              have HI5 := Lib.hid hI4
              have HD5 : Hid (BBlk wr (w1.heap.size + 1) 4 (doneL k p)) := hD4
              have HF5 := Lib.hid hF4
              have HE4 := Lib.hid e4
              clear hI4 hD4 hF4 e4
              go_wp2_with fail
              go_quiet (fail)
              go_wp2_with fail
              refine ⟨⟨j + 1, p ++ [i], putG st q x.t, u.set i (q : Int), by omega, by go_num, by unfold Hid; rw [List.length_append, hpl.out]; rfl, HSTEP.out.symm, hsv2, ?_, ?_, ?_, ?_⟩, by simp [intOf]; omega⟩
              · have h := IBlk.set (w := wr.drewN nq) (show IBlk (wr.drewN nq) w1.heap.size 3 u from HI5.out) i (q : Int)
                have h1 := Blk.far h (p := ⟨w1.heap.size + 1, i, none⟩) (by show w1.heap.size ≠ w1.heap.size + 1; omega) (.bool true)
                exact Blk.far h1 (p := ⟨w1.heap.size + 1 + 1, q, none⟩) (by show w1.heap.size ≠ w1.heap.size + 1 + 1; omega) _
              · unfold Hid
                rw [← doneL_set]
                have h := Blk.far (w := wr.drewN nq) (show Blk (wr.drewN nq) (w1.heap.size + 1) 4 _ from HD5.out) (p := ⟨w1.heap.size, i, none⟩) (by show w1.heap.size + 1 ≠ w1.heap.size; omega) (.int .i64 (q : Int))
                have h1 := BBlk.set h i true
                exact Blk.far h1 (p := ⟨w1.heap.size + 1 + 1, q, none⟩) (by show w1.heap.size + 1 ≠ w1.heap.size + 1 + 1; omega) _
              · unfold Hid
                rw [← freeL_put (by omega) hq]
                have h := Blk.far (w := wr.drewN nq) (show Blk (wr.drewN nq) (w1.heap.size + 1 + 1) 3 _ from HF5.out) (p := ⟨w1.heap.size, i, none⟩) (by show w1.heap.size + 1 + 1 ≠ w1.heap.size; omega) (.int .i64 (q : Int))
                have h1 := Blk.far h (p := ⟨w1.heap.size + 1, i, none⟩) (by show w1.heap.size + 1 + 1 ≠ w1.heap.size + 1; omega) (.bool true)
                exact IBlk.set h1 q _
              · exact ((((HB2.out.trans HE4.out).drewN _).setCell (p := ⟨w1.heap.size, i, none⟩) (Nat.le_refl _) _).setCell (p := ⟨w1.heap.size + 1, i, none⟩) (by show w1.heap.size ≤ w1.heap.size + 1; omega) _).setCell (p := ⟨w1.heap.size + 1 + 1, q, none⟩) (by show w1.heap.size ≤ w1.heap.size + 1 + 1; omega) _
    · obtain rfl : j = n := by omega
      have HFL : Hid (fillL xs rest = u) := by
        unfold Hid fillL
        rw [if_pos HV.out, ← Srv.all (xs := xs) (p := p) (by rw [hl.out]; exact hsv.out) (by rw [hl.out]; exact hpl.out), ← hfs.out]
      have HUL := Lib.hid hul
      go_wp2_with fail
      go_ret
      refine ⟨_, rfl, HB1.out.trans HB2.out, ?_⟩
      rw [HFL.out]
      have h := hI.out.own (base := w.heap.size) (by omega) (by rw [HUL.out]; unfold maxLen; omega)
      rw [HUL.out] at h ⊢
      exact h
end Go.Proofs.Ytlgmiifpdjalpaa
