/- Contracts of HallsWith; no condition but what stands at each theorem. -/
import Derived.Test.YtcmbjkidgemdaaaSHr
namespace Go.Proofs.Ytcmbjkidgemdaaa
set_option linter.unusedSimpArgs false
set_option linter.unusedVariables false
open Go.RowKit Go.Sort
def hallsWL (H : Int) (ds : List GDoor) (a ring : Int) : List Int := if ringB H ds ring && hallB H a then hallsL ds H.toNat a.toNat ring.toNat else []
def OwnL (L : List Int) (w : World) (e : Ending) (w' : World) : Prop := ∃ v, e = .returned v ∧ Ext w w' ∧ w'.ownsRow w.heap.size 3 1 v L.length (L.flatMap ienc)
theorem hallsL_len (ds : List GDoor) (h a ring : Nat) : (hallsL ds h a ring).length ≤ h := by
  unfold hallsL; rw [List.length_map]; exact Nat.le_trans (List.length_filter_le _ _) (by simp)
theorem hallsWL_len (H : Int) (ds : List GDoor) (a ring : Int) : (hallsWL H ds a ring).length ≤ 7 := by
  unfold hallsWL
  split
  · rename_i hc
    simp only [ringB, Bool.and_eq_true] at hc
    have h7 := (houseB_spec hc.1.1).2.1
    have := hallsL_len ds H.toNat a.toNat ring.toNat
    omega
  · simp
theorem ringB_spec {H : Int} {ds : List GDoor} {ring : Int} (h : ringB H ds ring = true) : houseB H ds = true ∧ 0 ≤ ring ∧ ring ≤ 4095 := by
  simp only [ringB, Bool.and_eq_true, inB, decide_eq_true_eq] at h
  obtain ⟨h1, h2, h3⟩ := h
  have hn := (houseB_spec h1).2.2.1
  have : 2 ^ ds.length ≤ 2 ^ 12 := Nat.pow_le_pow_right (by omega) hn
  exact ⟨h1, h2, by omega⟩
theorem hallB_spec {H k : Int} (h1 : 1 ≤ H) (h7 : H ≤ 7) (h : hallB H k = true) : 0 ≤ k ∧ k < H := by
  have e : wrap64 (H - 1) = H - 1 := IntWalk.wrap64_in _ ⟨by omega, by omega⟩
  simp only [hallB, e, inB, Bool.and_eq_true, decide_eq_true_eq] at h
  omega
set_option maxRecDepth 100000 in
set_option maxHeartbeats 2000000 in
theorem impl_HallsWith (H : Int) (A : Option Addr) (n c : Nat) (ds : List GDoor) (a ring : Int) (w : World) (hx : Rd w 2 A n (ds.flatMap GDoor.enc)) :
    Calls Try.prog 27 #[.agg #[.int .i64 H, .slice A n c], .int .i64 a, .int .i64 ring] w (OwnL (hallsWL H ds a ring) w) := by
  have hl := Lib.hid (hx.len GDoor.len (by omega))
  obtain ⟨wb, hwb⟩ : ∃ wb, wb = w.alloc (.cells #[.int .i64 H, .slice A n c] 29) := ⟨_, rfl⟩
  obtain ⟨hE, hsb, k0, k1⟩ := box2 w _ _ _ wb hwb
  have HE := Lib.hid hE
  have Hwb := Lib.hid hwb
  have Hk0 := Lib.hid k0
  have Hk1 := Lib.hid k1
  have hbl : w.heap.size < wb.heap.size := by omega
  have hxb := Lib.hid (hx.keep hE)
  clear hE hx hsb k0 k1 hwb
  have cR := Lib.hid (impl_RingOk H A n c ds ring wb hxb.out)
  cases hR : ringB H ds ring
  case false =>
    rw [hR] at cR
    have HF : Hid (hallsWL H ds a ring = []) := by unfold Hid hallsWL; rw [hR]; rfl
    clear hR
    go_enter Try.func27, Try.ntmps27
    go_wp2_with fail
    rw [← Hwb.out]
    refine cR.out.mono ?_
    rintro e w1 ⟨rfl, he1⟩
    have HE1 := Lib.hid he1
    clear he1
    go_wp2_with fail
    go_ret
    exact ⟨_, rfl, HE.out.trans HE1.out, by rw [HF.out]; exact World.ownsRow_nil _ _ _ _⟩
  case true =>
    rw [hR] at cR
    obtain ⟨hB, r0, r1⟩ := ringB_spec hR
    obtain ⟨h1, h7, h12, hT, hok, -⟩ := houseB_spec hB
    have cI := Lib.hid (fun w1 => impl_isHall H A n c a w1)
    cases hA : hallB H a
    case false =>
      rw [hA] at cI
      have HF : Hid (hallsWL H ds a ring = []) := by unfold Hid hallsWL; rw [hR, hA]; rfl
      clear hR hA hB hT hok
      go_enter Try.func27, Try.ntmps27
      go_wp2_with fail
      rw [← Hwb.out]
      refine cR.out.mono ?_
      rintro e w1 ⟨rfl, he1⟩
      have k0 := (he1.cellAt w.heap.size hbl 0).trans Hk0.out
      have k1 := (he1.cellAt w.heap.size hbl 1).trans Hk1.out
      have HE1 := Lib.hid he1
      clear he1
      go_wp2_with fail
      refine (cI.out w1).mono ?_
      rintro e w2 ⟨rfl, he2⟩
      have HE2 := Lib.hid he2
      clear he2 k0 k1
      go_wp2_with fail
      go_ret
      exact ⟨_, rfl, HE.out.trans (HE1.out.trans HE2.out), by rw [HF.out]; exact World.ownsRow_nil _ _ _ _⟩
    case true =>
      rw [hA] at cI
      have HF : Hid (hallsWL H ds a ring = hallsL ds H.toNat a.toNat ring.toNat) := by unfold Hid hallsWL; rw [hR, hA]; rfl
      obtain ⟨a0, a1⟩ := hallB_spec h1 h7 hA
      obtain ⟨h, hh⟩ := Int.eq_ofNat_of_zero_le (show 0 ≤ H by omega)
      obtain ⟨q, hq⟩ := Int.eq_ofNat_of_zero_le a0
      obtain ⟨r, hr⟩ := Int.eq_ofNat_of_zero_le r0
      subst hh hq hr
      have HT := Lib.hid hT
      have cH := Lib.hid (fun w1 he => impl_hallsWith h A n c ds q r w1 (hxb.out.keep he) HT (by omega) (by omega) (by have := hl.out; omega) (by omega) (by omega))
      simp only [Int.toNat_natCast] at HF
      clear hR hA hB hT hok
      go_enter Try.func27, Try.ntmps27
      go_wp2_with fail
      rw [← Hwb.out]
      refine cR.out.mono ?_
      rintro e w1 ⟨rfl, he1⟩
      have k0 := (he1.cellAt w.heap.size hbl 0).trans Hk0.out
      have k1 := (he1.cellAt w.heap.size hbl 1).trans Hk1.out
      have HE1 := Lib.hid he1
      clear he1
      go_wp2_with fail
      refine (cI.out w1).mono ?_
      rintro e w2 ⟨rfl, he2⟩
      have HE2 := Lib.hid (HE1.out.trans he2)
      clear he2 k0 k1
      have k0 := (HE2.out.cellAt w.heap.size hbl 0).trans Hk0.out
      have k1 := (HE2.out.cellAt w.heap.size hbl 1).trans Hk1.out
      go_wp2_with fail
      refine (cH.out w2 HE2.out).mono ?_
      rintro e w3 ⟨v3, rfl, he3, ho3⟩
      have HE3 := Lib.hid (HE.out.trans (HE2.out.trans he3))
      have HO3 := Lib.hid (own_weak (base' := w.heap.size) ho3 (HE.out.trans HE2.out).size)
      clear he3 ho3 k0 k1
      go_wp2_with fail
      go_ret
      exact ⟨_, rfl, HE3.out, by rw [HF.out]; exact HO3.out⟩
set_option maxRecDepth 100000 in
set_option maxHeartbeats 2000000 in
theorem spec_HallsWith (H : Int) (A : Option Addr) (n c : Nat) (ds : List GDoor) (a ring : Int) (w : World) (hx : Rd w 2 A n (ds.flatMap GDoor.enc)) :
    Calls Try.prog 33 #[.agg #[.int .i64 H, .slice A n c], .int .i64 a, .int .i64 ring] w (OwnL (hallsWL H ds a ring) w) := by
  have hl := Lib.hid (hx.len GDoor.len (by omega))
  obtain ⟨wb, hwb⟩ : ∃ wb, wb = w.alloc (.cells #[.int .i64 H, .slice A n c] 29) := ⟨_, rfl⟩
  obtain ⟨hE, hsb, k0, k1⟩ := box2 w _ _ _ wb hwb
  have HE := Lib.hid hE
  have Hwb := Lib.hid hwb
  have Hk0 := Lib.hid k0
  have Hk1 := Lib.hid k1
  have hbl : w.heap.size < wb.heap.size := by omega
  have hxb := Lib.hid (hx.keep hE)
  clear hE hx hsb k0 k1 hwb
  obtain ⟨wc, hwc⟩ : ∃ wc, wc = wb.alloc (.cells #[] 3) := ⟨_, rfl⟩
  have HEc : Hid (Ext wb wc) := by unfold Hid; rw [hwc]; exact (Ext.refl wb).alloc _
  have HOc : Hid (wc.ownsRow wb.heap.size 3 1 (.slice (some ⟨wb.heap.size, 0, none⟩) 0 0) 0 []) := by unfold Hid; rw [hwc]; exact own_empty wb wb.heap.size 3 1 (Nat.le_refl _)
  have hsb : wb.heap.size = w.heap.size + 1 := by rw [Hwb.out]; simp
  rw [hsb] at HOc
  have Hwc := Lib.hid hwc
  clear hwc hsb
  have hsw := HE.out.size
  have cR := Lib.hid (spec_RingOk H A n c ds ring wc (hxb.out.keep HEc.out))
  have k0 := (HEc.out.cellAt w.heap.size hbl 0).trans Hk0.out
  have k1 := (HEc.out.cellAt w.heap.size hbl 1).trans Hk1.out
  have m0 : w.heap.size + 1 ≠ w.heap.size := by omega
  cases hR : ringB H ds ring
  case false =>
    rw [hR] at cR
    have HF : Hid (hallsWL H ds a ring = []) := by unfold Hid hallsWL; rw [hR]; rfl
    clear hR k0 k1
    go_enter Try.func33, Try.ntmps33
    go_wp2_with fail
    rw [← Hwb.out, ← Hwc.out]
    refine cR.out.mono ?_
    rintro e w1 ⟨rfl, he1⟩
    have HO1 := Lib.hid (own_keep HOc.out he1)
    have HE1 := Lib.hid he1
    clear he1
    go_wp2_with fail
    go_ret
    exact ⟨_, rfl, HE.out.trans (HEc.out.trans HE1.out), by rw [HF.out]; exact own_weak HO1.out (by omega)⟩
  case true =>
    rw [hR] at cR
    obtain ⟨hB, r0, r1⟩ := ringB_spec hR
    obtain ⟨h1, h7, h12, hT, hok, -⟩ := houseB_spec hB
    have cI := Lib.hid (fun w1 => spec_l01In a 0 (wrap64 (H - 1)) w1)
    have eW : wrap64 (H - 1) = H - 1 := IntWalk.wrap64_in _ ⟨by omega, by omega⟩
    rw [eW] at cI
    have hAe : hallB H a = inB a 0 (H - 1) := by unfold hallB; rw [eW]
    clear eW
    cases hA : inB a 0 (H - 1)
    case false =>
      rw [hA] at cI hAe
      have HF : Hid (hallsWL H ds a ring = []) := by unfold Hid hallsWL; rw [hR, hAe]; rfl
      clear hR hA hB hT hok hAe k0 k1
      go_enter Try.func33, Try.ntmps33
      go_wp2_with fail
      rw [← Hwb.out, ← Hwc.out]
      refine cR.out.mono ?_
      rintro e w1 ⟨rfl, he1⟩
      have HO1 := Lib.hid (own_keep HOc.out he1)
      have HE1 := Lib.hid (HEc.out.trans he1)
      have k0 := (HE1.out.cellAt w.heap.size hbl 0).trans Hk0.out
      have k1 := (HE1.out.cellAt w.heap.size hbl 1).trans Hk1.out
      clear he1
      go_wp2_with (refine (cI.out w1).mono ?_; rintro e w2 ⟨rfl, rfl⟩)
      go_ret
      exact ⟨_, rfl, HE.out.trans HE1.out, by rw [HF.out]; exact own_weak HO1.out (by omega)⟩
    case true =>
      rw [hA] at cI hAe
      have HF : Hid (hallsWL H ds a ring = hallsL ds H.toNat a.toNat ring.toNat) := by unfold Hid hallsWL; rw [hR, hAe]; rfl
      obtain ⟨a0, a1⟩ := hallB_spec h1 h7 hAe
      obtain ⟨h, hh⟩ := Int.eq_ofNat_of_zero_le (show 0 ≤ H by omega)
      obtain ⟨q, hq⟩ := Int.eq_ofNat_of_zero_le a0
      obtain ⟨r, hr⟩ := Int.eq_ofNat_of_zero_le r0
      subst hh hq hr
      have hqh : q < h := by omega
      have hh7 : h ≤ 7 := by omega
      have HT := Lib.hid hok
      have HB := Lib.hid (fun k => reached_128 (n := k) hqh hh7 (opened_ok hok r))
      have HRR := Lib.hid (fun k (hk : k < h) => reached_reach hqh hk (opened_ok hok r))
      have cH := Lib.hid (fun w1 he => spec_l37Reached h A n c ds q r w1 (hxb.out.keep he) HT (by omega) (by have := hl.out; omega) (by omega) (by omega))
      simp only [Int.toNat_natCast] at HF
      clear hR hA hB hT hok hAe k0 k1
      go_enter Try.func33, Try.ntmps33
      go_wp2_with fail
      rw [← Hwb.out, ← Hwc.out]
      refine cR.out.mono ?_
      rintro e w1 ⟨rfl, he1⟩
      have HO1 := Lib.hid (own_keep HOc.out he1)
      have HE1 := Lib.hid (HEc.out.trans he1)
      have k0 := (HE1.out.cellAt w.heap.size hbl 0).trans Hk0.out
      have k1 := (HE1.out.cellAt w.heap.size hbl 1).trans Hk1.out
      clear he1
      go_wp2_with (first | (go_at_call 56; refine (cI.out w1).mono ?_; rintro e w2 ⟨rfl, rfl⟩) | (go_at_call 74; refine (cH.out w1 HE1.out).mono ?_; refine (fun h : Hid _ => h.out) ?_))
      unfold Hid
      rintro e w3 ⟨rfl, he3⟩
      have HO3 := Lib.hid (own_keep HO1.out he3)
      have HE3 := Lib.hid (HE1.out.trans he3)
      clear k0 k1 he3
      obtain ⟨S, hS⟩ : ∃ S, S = reached (opened r ds) q h := ⟨_, rfl⟩
      rw [← hS]
      have hS128 : S < 128 := by rw [hS]; exact HB.out h
      have HS : Hid (∀ k, k < h → bitB S k = reachB (opened r ds) h q k) := by unfold Hid; intro k hk; rw [bitB_test, hS]; exact HRR.out k hk
      clear hS
      go_wp2_with fail
      go_loopw [7, 9] (fun o i wr => ∃ (k : Nat) (M : List Int), k ≤ h ∧ i = .int .i64 k ∧ wr.ownsRow (w.heap.size + 1) 3 1 o M.length (M.flatMap ienc) ∧ Hid (M = ((List.range k).filter (reachB (opened r ds) h q)).map fun (k : Nat) => (k : Int)) ∧ Hid (M.length ≤ k) ∧ Ext wb wr) (fun _ i _ => h - (intOf i).toNat)
      case atStart => exact ⟨0, [], Nat.zero_le _, rfl, HO3.out, rfl, Nat.zero_le _, HE3.out⟩
      case round =>
        obtain ⟨k, M, hk, rfl, hown, hz, hMk, hb⟩ := hrel
        have k0 := (hb.cellAt w.heap.size hbl 0).trans Hk0.out
        have hM7 : M.length ≤ 7 := by have := hMk.out; omega
        have hbs := hb.size
        have hsb : wb.heap.size ≤ w.heap.size + 1 := by rw [Hwb.out]; simp
        have HO := Lib.hid hown
        have HB2 := Lib.hid hb
        clear hown hb
        by_cases hlt : k < h
        · have hbt : (bits .and .i64 ((S : Int) / 2 ^ k) 1 == 1) = bitB S k := bit_test S k (by omega)
          rw [HS.out k hlt] at hbt
          cases hr : reachB (opened r ds) h q k
          · rw [hr] at hbt
            have HR := Lib.hid hr
            clear hr
            go_wp2_with fail
            go_roundw
            case rel => exact ⟨k + 1, M, by omega, by go_num, HO.out, by unfold Hid; rw [hz.out, List.range_succ, List.filter_append]; simp [HR.out], by have := hMk.out; unfold Hid; omega, HB2.out⟩
            case measure => simp [intOf]; omega
          · rw [hr] at hbt
            have HR := Lib.hid hr
            clear hr
            go_wp2_with (at_builtin; refine append1 ei_I rfl _ _ rfl (w.heap.size + 1) wr _ _ M.length _ (by rfl) HO.out [.int .i64 k] (by rfl) rfl (one_int1 _) (by omega) (by omega) ?_; intro v' w6 ho6 he6; have HO6 := Lib.hid ho6; have HE6 := Lib.hid (he6 wb HB2.out hsb); clear ho6 he6)
            go_roundw
            case rel => exact ⟨k + 1, M ++ [(k : Int)], by omega, by go_num, by have := HO6.out; simpa [ienc] using this, by unfold Hid; rw [hz.out, List.range_succ, List.filter_append]; simp [HR.out], by have := hMk.out; unfold Hid; simp; omega, HE6.out⟩
            case measure => simp [intOf]; omega
        · obtain rfl : k = h := by omega
          go_wp2_with fail
          go_ret
          have hM : hallsL ds k q r = M := by rw [hz.out]; rfl
          exact ⟨_, rfl, HE.out.trans HB2.out, by rw [HF.out, hM]; exact own_weak HO.out (by omega)⟩
end Go.Proofs.Ytcmbjkidgemdaaa
