/- The walk of the law on shifts; no condition. -/
import Derived.Test.YtlgmiifpdjalpaaSW2
import Derived.Test.YtlgmiifpdjalpaaSW3
import Derived.Test.YtlgmiifpdjalpaaMK
import Derived.Test.YtlgmiifpdjalpaaKW
namespace Go.Proofs.Ytlgmiifpdjalpaa
set_option linter.unusedSimpArgs false
set_option linter.unusedVariables false
open Go.RowKit
theorem filled_at {xs : List GShift} {L : List Int} {k : Nat} (hk : k < xs.length) : (filledL xs L)[k]? = some ⟨L.getD k 0, shF xs k, shT xs k⟩ := by
  unfold filledL
  rw [List.getElem?_map, List.getElem?_range hk]
  rfl
theorem longer_at {xs : List GShift} {r : Int} {k : Nat} (hk : k < xs.length) : (longerL xs r)[k]? = some ⟨0, shF xs k, shT xs k + r⟩ := by
  unfold longerL
  rw [List.getElem?_map, List.getElem?_range hk]
  rfl
set_option maxRecDepth 100000 in
set_option maxHeartbeats 2000000 in
theorem law_FnShifts (A : Option Addr) (n c : Nat) (bs : List UInt8) (w : World) (hx : Rd w 1 A n (bs.flatMap bencU)) :
    Calls Try.prog 12 #[.slice A n c] w fun e w' => e = .returned (.bool true) ∧ Ext w w' := by
  by_cases hbig : 1048576 < n
  case pos =>
    go_enter Try.func12, Try.ntmps12
    go_wp2_with (refine (laws_big A n c _).mono ?_; rintro e w1 ⟨he, rfl⟩; rw [decide_eq_true hbig] at he; subst he)
    go_ret
    exact ⟨rfl, Ext.refl _⟩
  case neg =>
  have hxb := rd_bytes hx
  have hbd := bytes_bd bs
  obtain ⟨xs, hxs⟩ : ∃ xs, xs = bs.map fun b => (b.toNat : Int) := ⟨_, rfl⟩
  rw [← hxs] at hxb hbd
  clear hxs hx
  have HX := Lib.hid hxb
  have HBD := Lib.hid hbd
  have cD := Lib.hid (spec_DrawShifts A n c xs w hxb hbd (by omega))
  have cA0 : Hid (∀ W, Ext w W → Calls Try.prog 63 #[.slice A n c, .int .i64 0] W fun e w' => ∃ z : Int, e = .returned (.int .i64 z) ∧ 0 ≤ z ∧ z ≤ 255 ∧ Ext W w') := Lib.hid (fun W e => laws_at A n c xs 0 W (HX.out.keep e) HBD.out (by omega) (by omega))
  clear hxb hbd HX HBD
  go_enter Try.func12, Try.ntmps12
  go_wp2_with (go_at_call 17; refine (fun h : Hid _ => h.out) ?_)
  unfold Hid
  refine (laws_big A n c _).mono ?_
  rintro e w0 ⟨he, rfl⟩
  rw [decide_eq_false hbig] at he
  subst he
  go_wp2_with (go_at_call 59; refine (fun h : Hid _ => h.out) ?_)
  unfold Hid
  refine cD.out.mono ?_
  rintro e w1 ⟨Av, cv, L, r, rfl, hb1, ho1, hL10, hLm, hr0, hr5⟩
  have RL := Lib.hid (Rd.of_own ho1)
  have HLM := Lib.hid hLm
  have HB1 := Lib.hid hb1
  have hfv : fillV L r = true := by
    simp only [fillV, inB, Bool.and_eq_true, decide_eq_true_eq]
    refine ⟨⟨List.all_eq_true.2 fun x hx => (hLm x hx).1, by omega⟩, by omega, by omega⟩
  have hall := Lib.hid (fill_all hfv (fun k hk => by
    have := (hLm L[k] (List.getElem_mem hk)).2
    unfold shT
    rw [List.getD_eq_getElem?_getD, List.getElem?_eq_getElem hk]
    simp only [Option.getD_some]
    omega))
  have hFl := fillL_len hfv
  clear ho1 hb1 cD
  go_wp2_with (go_at_call 60; refine (fun h : Hid _ => h.out) ?_)
  unfold Hid
  refine (impl_FillShifts Av L.length cv L r w1 RL.out).mono ?_
  rintro e w2 ⟨v2, rfl, hb2, ho2⟩
  have cC := Lib.hid (impl_CountFill Av L.length cv L r w2 (RL.out.keep hb2))
  have cLo := Lib.hid (fun W t (e : Ext w2 W) => impl_LeastOnDuty Av L.length cv L t (t + 5) W ((RL.out.keep hb2).keep e))
  obtain ⟨F, hF⟩ : ∃ F, F = fillL L r := ⟨_, rfl⟩
  rw [← hF] at hall cC ho2 hFl
  obtain ⟨cn, hcn⟩ : ∃ cn, cn = cntL F := ⟨_, rfl⟩
  rw [← hcn] at hall cC
  rw [hFl] at ho2
  obtain ⟨A2, c2, rfl, hc2⟩ := own_form ho2
  have HB2 := Lib.hid hb2
  have HB12 := Lib.hid (HB1.out.trans hb2)
  have RF := Lib.hid (Rd.of_own ho2)
  have RL2 := Lib.hid (RL.out.keep hb2)
  have hsh : Hid (shiftsOk (filledL L F) r = true) := hall.out.2.1
  have hmo : Hid (cn = mostD L r) := hall.out.2.2.1
  have hze : Hid ((L.length = 0) ↔ (cn = 0)) := hall.out.2.2.2
  have hrg : Hid (∀ k, k < L.length → 0 ≤ F.getD k 0 ∧ F.getD k 0 < cn) := hall.out.1
  have hlo : Hid (∀ t : Int, 0 ≤ t → t ≤ 9990 → 0 ≤ leastI L t (t + 5) ∧ leastI L t (t + 5) ≤ onDuty L t ∧ leastI L t (t + 5) ≤ onDuty L (t + 4)) := Lib.hid fun t h0 h1 => least_law (fun x hx => (hLm x hx).1) (by omega) h0 h1
  have HM := Lib.hid hLm
  have HFL := Lib.hid hFl
  clear hb2 ho2 hF hcn hall hLm hFl hfv HLM
  go_wp2_with (go_at_call 61; refine (fun h : Hid _ => h.out) ?_)
  unfold Hid
  refine cC.out.mono ?_
  rintro e w3 ⟨rfl, hb3⟩
  have HB3 := Lib.hid hb3
  have RF3 := Lib.hid (RF.out.keep hb3)
  have RL3 := Lib.hid (RL2.out.keep hb3)
  clear hb3 cC RF RL2 RL HB2
  go_wp2_with fail
  go_loopw [7, 8, 9] (fun fv lv iv wr => ∃ (k : Nat), k ≤ L.length ∧ iv = .int .i64 k ∧ Hid (wr.ownsRow w3.heap.size 85 3 fv k (((filledL L F).take k).flatMap GShift.enc)) ∧ Hid (wr.ownsRow w3.heap.size 85 3 lv k (((longerL L r).take k).flatMap GShift.enc)) ∧ Hid (ApartW fv lv) ∧ Hid (Ext w3 wr)) (fun _ _ iv _ => L.length - (intOf iv).toNat)
  case atStart =>
    refine ⟨0, Nat.zero_le _, rfl, ?_, ?_, ?_, ?_⟩
    · exact Lib.hid (own_keep (own_empty w3 w3.heap.size 85 3 (Nat.le_refl _)) ((Ext.refl _).alloc _))
    · have h := own_empty (w3.alloc (.cells #[] 85)) w3.heap.size 85 3 (by simp)
      rw [heap_size_alloc] at h
      exact Lib.hid h
    · refine Lib.hid fun g hg hg' => ?_
      simp [Value.ownBlock] at hg hg'
      omega
    · exact Lib.hid (((Ext.refl _).alloc _).alloc _)
  case round =>
    obtain ⟨k, hk, rfl, hof, hol, hap, hb⟩ := hrel
    by_cases hlt : k < L.length
    · obtain ⟨b, off, x, hAe, hbs, hxk, q0, q1, q2⟩ := GShift.at_ RL3.out hlt
      subst hAe
      obtain ⟨bf, of', z, hFe, hbf, hzk, p0⟩ := ienc_at RF3.out hlt
      subst hFe
      have hm := HM.out x (List.mem_of_getElem? hxk)
      have hr1 := hrg.out k hlt
      have hz : F.getD k 0 = z := by rw [List.getD_eq_getElem?_getD, hzk]; rfl
      rw [hz] at hr1
      obtain ⟨xg, xf, xt⟩ := x
      simp only at q0 q1 q2 hm
      have hso : 0 ≤ xf ∧ xf < xt := by
        have h := hm.1
        simp [shOk, inB] at h
        omega
      have hf1 : Hid (shF L k = xf) := Lib.hid (by unfold shF; rw [List.getD_eq_getElem?_getD, hxk]; rfl)
      have ht1 : Hid (shT L k = xt) := Lib.hid (by unfold shT; rw [List.getD_eq_getElem?_getD, hxk]; rfl)
      have hz1 := Lib.hid hz
      have hm2 : xt ≤ 100 := hm.2
      have hlti : (k : Int) < L.length := by omega
      have hn0 : ¬ z < 0 := by omega
      have hn1 : ¬ cn ≤ z := by omega
      have hn2 : decide (cn ≤ z) = false := decide_eq_false hn1
      have HXK := Lib.hid hxk
      clear hm hxk hzk hz
      have HP0 := Lib.hid p0
      have HQ0 := Lib.hid q0
      have HQ1 := Lib.hid q1
      have HQ2 := Lib.hid q2
      have ew : IntKind.i64.wrap (xt + r) = xt + r := IntWalk.i64_in _ (by omega)
      have hwz : w3.heap.size ≤ wr.heap.size := hb.out.size
      have y0 := (hb.out.cellAt bf hbf _).trans HP0.out
      have y1 := (hb.out.cellAt b hbs _).trans HQ1.out
      have y2 := (hb.out.cellAt b hbs _).trans HQ2.out
      clear p0 q0 q1 q2
      go_wp2_with fail
      have HOL := Lib.hid (own_keep hol.out (Ext.refl wr).drew)
      have HOF := Lib.hid (own_keep hof.out (Ext.refl wr).drew)
      have HEB := Lib.hid (hb.out.drew)
      go_region_held3 (fun w' => w'.cell? ⟨bf, of' + k, none⟩ = some (.int .i64 z) ∧ w'.cell? ⟨b, off + k * 3 + 1, none⟩ = some (.int .i64 xf) ∧ w'.cell? ⟨b, off + k * 3 + 2, none⟩ = some (.int .i64 xt)) (go_keep) (first
        | (refine step_appW ei_Shift (by rfl) _ _ (by rfl) w3.heap.size wr.drew _ _ (GShift.enc ⟨z, xf, xt⟩) (by rfl) _ k _ (by rfl) HOF.out (by rfl) rfl (by intro u hu; simp [GShift.enc] at hu; rcases hu with rfl | rfl | rfl <;> rfl) (by omega) hwz ?_; intro g5 c5 w5 ho5 hg5 hv5; have he5 := ext_apartW HEB.out HOF.out (Nat.le_refl _) hg5; have y0 := (he5.cellAt bf hbf _).trans HP0.out; have y1 := (he5.cellAt b hbs _).trans HQ1.out; have y2 := (he5.cellAt b hbs _).trans HQ2.out))
      have HOF5 := Lib.hid ho5
      have HOL5 := Lib.hid (own_apartW HOL.out hap.out.symm hg5)
      have HAP5 := Lib.hid ((hap.out.symm.grown HOL.out hv5).symm)
      have HE5 := Lib.hid he5
      have z5 : w3.heap.size ≤ w5.heap.size := HE5.out.size
      clear ho5 hg5 hv5 he5 hof hol hap hb HOL HOF HEB
      have HOL := Lib.hid (own_keep HOL5.out (Ext.refl w5).drew)
      have HOF := Lib.hid (own_keep HOF5.out (Ext.refl w5).drew)
      have HEB := Lib.hid (HE5.out.drew)
      go_wp2_with fail
      go_region_held3 (fun w' => w'.cell? ⟨b, off + k * 3 + 1, none⟩ = some (.int .i64 xf) ∧ w'.cell? ⟨b, off + k * 3 + 2, none⟩ = some (.int .i64 xt)) (go_keep) (first
        | (refine step_appW ei_Shift (by rfl) _ _ (by rfl) w3.heap.size w5.drew _ _ (GShift.enc ⟨0, xf, xt + r⟩) (by rfl) _ k _ (by rfl) HOL.out (by rfl) rfl (by intro u hu; simp [GShift.enc] at hu; rcases hu with rfl | rfl | rfl <;> rfl) (by omega) z5 ?_; intro g6 c6 w6 ho6 hg6 hv6; have he6 := ext_apartW HEB.out HOL.out (Nat.le_refl _) hg6; have y0 := (he6.cellAt bf hbf _).trans HP0.out; have y1 := (he6.cellAt b hbs _).trans HQ1.out; have y2 := (he6.cellAt b hbs _).trans HQ2.out))
      have HOL6 := Lib.hid ho6
      have HOF6 := Lib.hid (own_apartW HOF.out HAP5.out hg6)
      have HAP6 := Lib.hid (HAP5.out.grown HOF.out hv6)
      have HE6 := Lib.hid he6
      clear ho6 hg6 hv6 he6 HOL HOF HEB y0 y1 y2 HOF5 HOL5 HAP5 HE5
      have hF1 : Hid ((filledL L F).take (k + 1) = (filledL L F).take k ++ [⟨z, xf, xt⟩]) := Lib.hid (by
        have h := filled_at (L := F) hlt
        rw [hz1.out, hf1.out, ht1.out] at h
        exact take_snoc h)
      have hF2 : Hid ((longerL L r).take (k + 1) = (longerL L r).take k ++ [⟨0, xf, xt + r⟩]) := Lib.hid (by
        have h := longer_at (r := r) hlt
        rw [hf1.out, ht1.out] at h
        exact take_snoc h)
      go_wp2_with fail
      go_roundw
      case rel =>
        refine ⟨k + 1, by omega, by go_num, ?_, ?_, HAP6, HE6⟩
        · unfold Hid
          rw [hF1.out, List.flatMap_append]
          simpa using HOF6.out
        · unfold Hid
          rw [hF2.out, List.flatMap_append]
          simpa using HOL6.out
      case measure => simp [intOf]; omega
    · obtain rfl : k = L.length := by omega
      obtain ⟨Af, cf, rfl, hcf⟩ := own_form hof.out
      obtain ⟨Al, cl, rfl, hcl⟩ := own_form hol.out
      have hRf := Lib.hid (Rd.of_own hof.out)
      have hRl := Lib.hid (Rd.of_own hol.out)
      rw [List.take_of_length_le (by simp [filledL])] at hRf
      rw [List.take_of_length_le (by simp [longerL])] at hRl
      have HW := Lib.hid (HB12.out.trans (HB3.out.trans hb.out))
      have cD := Lib.hid (fun W m (e : Ext wr W) => impl_OnDuty Al L.length cl (longerL L r) m W (hRl.out.keep e))
      have cO := Lib.hid (fun W m (e : Ext wr W) => impl_OnDuty Av L.length cv L m W ((RL3.out.keep hb.out).keep e))
      have cM := Lib.hid (fun W t (e : Ext wr W) => cLo.out W t ((HB3.out.trans hb.out).trans e))
      have cS := Lib.hid (fun W (e : Ext wr W) => impl_ShiftsOk Af L.length cf (filledL L F) r W (hRf.out.keep e) hcf)
      rw [hsh.out] at cS
      have RL4 := Lib.hid (RL3.out.keep hb.out)
      clear hof hol hap hb hRf hRl
      go_wp2_with fail
      have hmx := @run_imax Try.prog
      obtain ⟨wq, rfl⟩ : ∃ wq, wq = wr := ⟨_, rfl⟩
      go_loopw [10, 11] (fun mv iv wr => ∃ (k : Nat) (m : Int), k ≤ L.length ∧ iv = .int .i64 k ∧ mv = .int .i64 m ∧ Hid (m = (List.range k).foldl (fun z k => imax z (onDuty (longerL L r) (shF L k))) 0) ∧ Hid (Ext wq wr)) (fun _ iv _ => L.length - (intOf iv).toNat)
      case atStart => exact ⟨0, 0, Nat.zero_le _, rfl, rfl, Lib.hid rfl, Lib.hid (Ext.refl _)⟩
      case round =>
        obtain ⟨k, m, hk, rfl, rfl, hm, hb⟩ := hrel
        by_cases hlt : k < L.length
        · obtain ⟨b, off, x, hAe, hbs, hxk, q0, q1, q2⟩ := GShift.at_ (RL4.out.keep hb.out) hlt
          subst hAe
          have hf1 : Hid (shF L k = x.f) := Lib.hid (by unfold shF; rw [List.getD_eq_getElem?_getD, hxk]; rfl)
          obtain ⟨xg, xf, xt⟩ := x
          simp only at q0 q1 q2 hf1
          have hlti : (k : Int) < L.length := by omega
          have hm1 : Hid ((List.range (k + 1)).foldl (fun z k => imax z (onDuty (longerL L r) (shF L k))) 0 = imax m (onDuty (longerL L r) xf)) := Lib.hid (by
            rw [List.range_succ, List.foldl_append, ← hm.out]
            simp only [List.foldl_cons, List.foldl_nil]
            rw [hf1.out])
          clear hxk q0 q2 hf1
          go_wp2_with (go_at_call 62; refine (fun h : Hid _ => h.out) ?_)
          unfold Hid
          refine (cD.out _ _ (by first | exact hb.out | exact hb.out.drew)).mono ?_
          rintro e w7 ⟨rfl, hb7⟩
          have HB7 := Lib.hid (Ext.trans (by first | exact hb.out | exact hb.out.drew) hb7)
          clear hb7 q1
          go_wp2_with fail
          go_roundw
          case rel => exact ⟨k + 1, _, by omega, by go_num, rfl, by unfold Hid; rw [hm1.out], HB7⟩
          case measure => simp [intOf]; omega
        · obtain rfl : k = L.length := by omega
          have hmc : m = cn := by rw [hm.out, hmo.out]; rfl
          subst hmc
          clear hm
          go_wp2_with (go_at_call 63; refine (fun h : Hid _ => h.out) ?_)
          unfold Hid
          refine (cA0.out _ (HW.out.trans hb.out)).mono ?_
          rintro e w8 ⟨z, rfl, hz0, hz1, hb8⟩
          have HB8 := Lib.hid (hb.out.trans hb8)
          have ht0 := Int.emod_nonneg z (show (35 : Int) ≠ 0 by omega)
          have ht1 := Int.emod_lt_of_pos z (show (0 : Int) < 35 by omega)
          clear hb8 hb
          go_wp2_with (go_at_call 28; refine (fun h : Hid _ => h.out) ?_)
          unfold Hid
          refine (cM.out _ _ HB8.out).mono ?_
          rintro e w9 ⟨rfl, hb9⟩
          have HB9 := Lib.hid (HB8.out.trans hb9)
          obtain ⟨l0, l1, l2⟩ := hlo.out (z % 35) ht0 (by omega)
          obtain ⟨t, htt⟩ : ∃ t, t = z % 35 := ⟨_, rfl⟩
          rw [← htt] at ht0 ht1 l0 l1 l2 ⊢
          obtain ⟨lo, hlo1⟩ : ∃ lo, lo = leastI L t (t + 5) := ⟨_, rfl⟩
          rw [← hlo1] at l0 l1 l2 ⊢
          obtain ⟨d1, hd1⟩ : ∃ d1, d1 = onDuty L t := ⟨_, rfl⟩
          obtain ⟨d2, hd2⟩ : ∃ d2, d2 = onDuty L (t + 4) := ⟨_, rfl⟩
          have cO1 := Lib.hid (fun W (e : Ext wq W) => cO.out W t e)
          have cO2 := Lib.hid (fun W (e : Ext wq W) => cO.out W (t + 4) e)
          rw [← hd1] at l1 cO1
          rw [← hd2] at l2 cO2
          clear hb9 htt hlo1 hd1 hd2
          have hzb : ((L.length : Int) == 0) = (m == 0) := by
            rw [Bool.eq_iff_iff]
            simp only [beq_iff_eq]
            rw [← hze.out]
            omega
          go_wp2_with (go_at_call 64; refine (fun h : Hid _ => h.out) ?_)
          unfold Hid
          refine (cS.out _ HB9.out).mono ?_
          rintro e w10 ⟨rfl, hb10⟩
          have HB10 := Lib.hid (HB9.out.trans hb10)
          clear hb10
          go_wp2_with (go_at_call 62; refine (fun h : Hid _ => h.out) ?_)
          unfold Hid
          refine (cO1.out _ HB10.out).mono ?_
          rintro e w11 ⟨rfl, hb11⟩
          have HB11 := Lib.hid (HB10.out.trans hb11)
          clear hb11
          go_wp2_with (go_at_call 62; refine (fun h : Hid _ => h.out) ?_)
          unfold Hid
          refine (cO2.out _ HB11.out).mono ?_
          rintro e w12 ⟨rfl, hb12⟩
          have HB12 := Lib.hid (HW.out.trans (HB11.out.trans hb12))
          clear hb12
          go_wp2_with fail
          go_ret
          exact ⟨ret_bool (by simp [hzb]), HB12.out⟩
end Go.Proofs.Ytlgmiifpdjalpaa
